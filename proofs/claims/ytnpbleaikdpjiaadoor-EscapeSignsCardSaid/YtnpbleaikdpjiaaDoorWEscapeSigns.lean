/- EscapeSigns: the walk. -/
import Derived.Test.YtnpbleaikdpjiaaDoorAlive5
import Derived.OpenShut
namespace Go.Proofs.YtnpbleaikdpjiaaDoor.escapeSigns
open Go.RowKit

def look (b : UInt8) : Bool := (Esc.read (Esc.write [b]) == ([b], 0)) && ((Esc.write [b]).length == (if (8 ≤ b.toNat ∧ b.toNat ≤ 10) ∨ (12 ≤ b.toNat ∧ b.toNat ≤ 12) ∨ (13 ≤ b.toNat ∧ b.toNat ≤ 13) ∨ (34 ≤ b.toNat ∧ b.toNat ≤ 34) ∨ (92 ≤ b.toNat ∧ b.toNat ≤ 92) then 2 else if b.toNat < 32 then 6 else 1))

theorem look_all : ∀ n : Fin 128, look (UInt8.ofNat n.val) = true := by decide +kernel

theorem look_of (b : UInt8) (h : b.toNat < 128) : Esc.read (Esc.write [b]) = ([b], 0) ∧ (Esc.write [b]).length = (if (8 ≤ b.toNat ∧ b.toNat ≤ 10) ∨ (12 ≤ b.toNat ∧ b.toNat ≤ 12) ∨ (13 ≤ b.toNat ∧ b.toNat ≤ 13) ∨ (34 ≤ b.toNat ∧ b.toNat ≤ 34) ∨ (92 ≤ b.toNat ∧ b.toNat ≤ 92) then 2 else if b.toNat < 32 then 6 else 1) := by
  have h1 := look_all ⟨b.toNat, h⟩
  have e : UInt8.ofNat b.toNat = b := by simp
  simp only [e, look, Bool.and_eq_true, beq_iff_eq] at h1
  exact h1

set_option maxHeartbeats 2000000 in
set_option maxRecDepth 100000 in
theorem walk (a0 : Int) (w0 : (Lit.int .u8 a0).wf = true) (w : World) (hT : Lib.Utf8Tabs 0 1 w) :
    Calls Tryd.prog 6 #[.int .u8 a0] w fun e w' => e = .returned (.bool true) ∧ Below w.heap.size w w' := by
  obtain ⟨c, rfl⟩ := Int64.byte_of a0 w0
  have HT := Lib.hid hT
  clear hT w0
  by_cases h128 : 128 ≤ c.toNat
  · go_enter Tryd.func6, Tryd.ntmps6
    go_wp2_with (fail)
    refine (Alive5.any w HT.out).mono ?_
    rintro e w1 ⟨rfl, b1⟩
    go_wp2
    go_ret
    exact ⟨rfl, b1⟩
  · obtain ⟨hR, hL⟩ := look_of c (by omega)
    have hl6 : (Esc.write [c]).length ≤ 6 := by
      rw [hL]
      split
      · omega
      · split
        · omega
        · omega
    have HR := Lib.hid (fun W => Alive5.readOf ⟨(Esc.write [c]).toArray⟩ (by rw [Mem.size_mk]; omega) ([c], 0) hR W)
    have HW := Lib.hid (fun W hW => Alive5.writeOf ⟨#[c]⟩ (by show 1 ≤ 1000; omega) (Esc.write [c]) rfl W hW)
    have hsz := hL
    clear hR hL
    generalize hq : Esc.write [c] = q at *
    clear hq
    rcases (show (0 ≤ c.toNat ∧ c.toNat ≤ 7) ∨ (8 ≤ c.toNat ∧ c.toNat ≤ 10) ∨ (11 ≤ c.toNat ∧ c.toNat ≤ 11) ∨ (12 ≤ c.toNat ∧ c.toNat ≤ 12) ∨ (13 ≤ c.toNat ∧ c.toNat ≤ 13) ∨ (14 ≤ c.toNat ∧ c.toNat ≤ 31) ∨ (32 ≤ c.toNat ∧ c.toNat ≤ 33) ∨ (34 ≤ c.toNat ∧ c.toNat ≤ 34) ∨ (35 ≤ c.toNat ∧ c.toNat ≤ 91) ∨ (92 ≤ c.toNat ∧ c.toNat ≤ 92) ∨ (93 ≤ c.toNat ∧ c.toNat ≤ 127) by omega) with ⟨g1, g2⟩ | ⟨g1, g2⟩ | ⟨g1, g2⟩ | ⟨g1, g2⟩ | ⟨g1, g2⟩ | ⟨g1, g2⟩ | ⟨g1, g2⟩ | ⟨g1, g2⟩ | ⟨g1, g2⟩ | ⟨g1, g2⟩ | ⟨g1, g2⟩
    · have hn : ((q.length : Int) == 6) = true := by rw [hsz, if_neg (by omega), if_pos (by omega)]; rfl
      have t34 : ((c.toNat : Int) == 34) = false := beq_eq_false_iff_ne.mpr (by omega)
      have t92 : ((c.toNat : Int) == 92) = false := beq_eq_false_iff_ne.mpr (by omega)
      have t12 : ((c.toNat : Int) == 12) = false := beq_eq_false_iff_ne.mpr (by omega)
      have t13 : ((c.toNat : Int) == 13) = false := beq_eq_false_iff_ne.mpr (by omega)
      clear hsz h128
      go_enter Tryd.func6, Tryd.ntmps6
      go_wp2_with (fail)
      refine (Alive5.any w HT.out).mono ?_
      rintro e w1 ⟨rfl, b1⟩
      have hcv := Mem.run_one_plain w1 (c.toNat : Int) c rfl
      have hb1 := b1.alloc b1.size (.cells #[.int .u8 (c.toNat : Int)] 5)
      have HT1 := Lib.hid (Go.Proofs.Utf8Tabs_below HT.out hb1)
      have HB1 := Lib.hid hb1
      clear hb1
      go_wp2_with (fail)
      refine (HW.out _ HT1.out).mono ?_
      rintro e w2 ⟨rfl, b2⟩
      go_wp2_with (fail)
      refine (HR.out _).mono ?_
      rintro e w3 ⟨rfl, b3⟩
      go_wp2
      go_ret
      have hb2 := HB1.out.trans (b2.mono HB1.out.size)
      exact ⟨Mem.ret_bool (by simp), hb2.trans (b3.mono hb2.size)⟩
    · have hn : ((q.length : Int) == 2) = true := by rw [hsz, if_pos (by omega)]; rfl
      have t34 : ((c.toNat : Int) == 34) = false := beq_eq_false_iff_ne.mpr (by omega)
      have t92 : ((c.toNat : Int) == 92) = false := beq_eq_false_iff_ne.mpr (by omega)
      have t12 : ((c.toNat : Int) == 12) = false := beq_eq_false_iff_ne.mpr (by omega)
      have t13 : ((c.toNat : Int) == 13) = false := beq_eq_false_iff_ne.mpr (by omega)
      clear hsz h128
      go_enter Tryd.func6, Tryd.ntmps6
      go_wp2_with (fail)
      refine (Alive5.any w HT.out).mono ?_
      rintro e w1 ⟨rfl, b1⟩
      have hcv := Mem.run_one_plain w1 (c.toNat : Int) c rfl
      have hb1 := b1.alloc b1.size (.cells #[.int .u8 (c.toNat : Int)] 5)
      have HT1 := Lib.hid (Go.Proofs.Utf8Tabs_below HT.out hb1)
      have HB1 := Lib.hid hb1
      clear hb1
      go_wp2_with (fail)
      refine (HW.out _ HT1.out).mono ?_
      rintro e w2 ⟨rfl, b2⟩
      go_wp2_with (fail)
      refine (HR.out _).mono ?_
      rintro e w3 ⟨rfl, b3⟩
      go_wp2
      go_ret
      have hb2 := HB1.out.trans (b2.mono HB1.out.size)
      exact ⟨Mem.ret_bool (by simp), hb2.trans (b3.mono hb2.size)⟩
    · have hn : ((q.length : Int) == 6) = true := by rw [hsz, if_neg (by omega), if_pos (by omega)]; rfl
      have t34 : ((c.toNat : Int) == 34) = false := beq_eq_false_iff_ne.mpr (by omega)
      have t92 : ((c.toNat : Int) == 92) = false := beq_eq_false_iff_ne.mpr (by omega)
      have t12 : ((c.toNat : Int) == 12) = false := beq_eq_false_iff_ne.mpr (by omega)
      have t13 : ((c.toNat : Int) == 13) = false := beq_eq_false_iff_ne.mpr (by omega)
      clear hsz h128
      go_enter Tryd.func6, Tryd.ntmps6
      go_wp2_with (fail)
      refine (Alive5.any w HT.out).mono ?_
      rintro e w1 ⟨rfl, b1⟩
      have hcv := Mem.run_one_plain w1 (c.toNat : Int) c rfl
      have hb1 := b1.alloc b1.size (.cells #[.int .u8 (c.toNat : Int)] 5)
      have HT1 := Lib.hid (Go.Proofs.Utf8Tabs_below HT.out hb1)
      have HB1 := Lib.hid hb1
      clear hb1
      go_wp2_with (fail)
      refine (HW.out _ HT1.out).mono ?_
      rintro e w2 ⟨rfl, b2⟩
      go_wp2_with (fail)
      refine (HR.out _).mono ?_
      rintro e w3 ⟨rfl, b3⟩
      go_wp2
      go_ret
      have hb2 := HB1.out.trans (b2.mono HB1.out.size)
      exact ⟨Mem.ret_bool (by simp), hb2.trans (b3.mono hb2.size)⟩
    · have hn : ((q.length : Int) == 2) = true := by rw [hsz, if_pos (by omega)]; rfl
      have t34 : ((c.toNat : Int) == 34) = false := beq_eq_false_iff_ne.mpr (by omega)
      have t92 : ((c.toNat : Int) == 92) = false := beq_eq_false_iff_ne.mpr (by omega)
      have t12 : ((c.toNat : Int) == 12) = true := beq_iff_eq.mpr (by omega)
      have t13 : ((c.toNat : Int) == 13) = false := beq_eq_false_iff_ne.mpr (by omega)
      clear hsz h128
      go_enter Tryd.func6, Tryd.ntmps6
      go_wp2_with (fail)
      refine (Alive5.any w HT.out).mono ?_
      rintro e w1 ⟨rfl, b1⟩
      have hcv := Mem.run_one_plain w1 (c.toNat : Int) c rfl
      have hb1 := b1.alloc b1.size (.cells #[.int .u8 (c.toNat : Int)] 5)
      have HT1 := Lib.hid (Go.Proofs.Utf8Tabs_below HT.out hb1)
      have HB1 := Lib.hid hb1
      clear hb1
      go_wp2_with (fail)
      refine (HW.out _ HT1.out).mono ?_
      rintro e w2 ⟨rfl, b2⟩
      go_wp2_with (fail)
      refine (HR.out _).mono ?_
      rintro e w3 ⟨rfl, b3⟩
      go_wp2
      go_ret
      have hb2 := HB1.out.trans (b2.mono HB1.out.size)
      exact ⟨Mem.ret_bool (by simp), hb2.trans (b3.mono hb2.size)⟩
    · have hn : ((q.length : Int) == 2) = true := by rw [hsz, if_pos (by omega)]; rfl
      have t34 : ((c.toNat : Int) == 34) = false := beq_eq_false_iff_ne.mpr (by omega)
      have t92 : ((c.toNat : Int) == 92) = false := beq_eq_false_iff_ne.mpr (by omega)
      have t12 : ((c.toNat : Int) == 12) = false := beq_eq_false_iff_ne.mpr (by omega)
      have t13 : ((c.toNat : Int) == 13) = true := beq_iff_eq.mpr (by omega)
      clear hsz h128
      go_enter Tryd.func6, Tryd.ntmps6
      go_wp2_with (fail)
      refine (Alive5.any w HT.out).mono ?_
      rintro e w1 ⟨rfl, b1⟩
      have hcv := Mem.run_one_plain w1 (c.toNat : Int) c rfl
      have hb1 := b1.alloc b1.size (.cells #[.int .u8 (c.toNat : Int)] 5)
      have HT1 := Lib.hid (Go.Proofs.Utf8Tabs_below HT.out hb1)
      have HB1 := Lib.hid hb1
      clear hb1
      go_wp2_with (fail)
      refine (HW.out _ HT1.out).mono ?_
      rintro e w2 ⟨rfl, b2⟩
      go_wp2_with (fail)
      refine (HR.out _).mono ?_
      rintro e w3 ⟨rfl, b3⟩
      go_wp2
      go_ret
      have hb2 := HB1.out.trans (b2.mono HB1.out.size)
      exact ⟨Mem.ret_bool (by simp), hb2.trans (b3.mono hb2.size)⟩
    · have hn : ((q.length : Int) == 6) = true := by rw [hsz, if_neg (by omega), if_pos (by omega)]; rfl
      have t34 : ((c.toNat : Int) == 34) = false := beq_eq_false_iff_ne.mpr (by omega)
      have t92 : ((c.toNat : Int) == 92) = false := beq_eq_false_iff_ne.mpr (by omega)
      have t12 : ((c.toNat : Int) == 12) = false := beq_eq_false_iff_ne.mpr (by omega)
      have t13 : ((c.toNat : Int) == 13) = false := beq_eq_false_iff_ne.mpr (by omega)
      clear hsz h128
      go_enter Tryd.func6, Tryd.ntmps6
      go_wp2_with (fail)
      refine (Alive5.any w HT.out).mono ?_
      rintro e w1 ⟨rfl, b1⟩
      have hcv := Mem.run_one_plain w1 (c.toNat : Int) c rfl
      have hb1 := b1.alloc b1.size (.cells #[.int .u8 (c.toNat : Int)] 5)
      have HT1 := Lib.hid (Go.Proofs.Utf8Tabs_below HT.out hb1)
      have HB1 := Lib.hid hb1
      clear hb1
      go_wp2_with (fail)
      refine (HW.out _ HT1.out).mono ?_
      rintro e w2 ⟨rfl, b2⟩
      go_wp2_with (fail)
      refine (HR.out _).mono ?_
      rintro e w3 ⟨rfl, b3⟩
      go_wp2
      go_ret
      have hb2 := HB1.out.trans (b2.mono HB1.out.size)
      exact ⟨Mem.ret_bool (by simp), hb2.trans (b3.mono hb2.size)⟩
    · have hn : ((q.length : Int) == 1) = true := by rw [hsz, if_neg (by omega), if_neg (by omega)]; rfl
      have t34 : ((c.toNat : Int) == 34) = false := beq_eq_false_iff_ne.mpr (by omega)
      have t92 : ((c.toNat : Int) == 92) = false := beq_eq_false_iff_ne.mpr (by omega)
      have t12 : ((c.toNat : Int) == 12) = false := beq_eq_false_iff_ne.mpr (by omega)
      have t13 : ((c.toNat : Int) == 13) = false := beq_eq_false_iff_ne.mpr (by omega)
      clear hsz h128
      go_enter Tryd.func6, Tryd.ntmps6
      go_wp2_with (fail)
      refine (Alive5.any w HT.out).mono ?_
      rintro e w1 ⟨rfl, b1⟩
      have hcv := Mem.run_one_plain w1 (c.toNat : Int) c rfl
      have hb1 := b1.alloc b1.size (.cells #[.int .u8 (c.toNat : Int)] 5)
      have HT1 := Lib.hid (Go.Proofs.Utf8Tabs_below HT.out hb1)
      have HB1 := Lib.hid hb1
      clear hb1
      go_wp2_with (fail)
      refine (HW.out _ HT1.out).mono ?_
      rintro e w2 ⟨rfl, b2⟩
      go_wp2_with (fail)
      refine (HR.out _).mono ?_
      rintro e w3 ⟨rfl, b3⟩
      go_wp2
      go_ret
      have hb2 := HB1.out.trans (b2.mono HB1.out.size)
      exact ⟨Mem.ret_bool (by simp), hb2.trans (b3.mono hb2.size)⟩
    · have hn : ((q.length : Int) == 2) = true := by rw [hsz, if_pos (by omega)]; rfl
      have t34 : ((c.toNat : Int) == 34) = true := beq_iff_eq.mpr (by omega)
      have t92 : ((c.toNat : Int) == 92) = false := beq_eq_false_iff_ne.mpr (by omega)
      have t12 : ((c.toNat : Int) == 12) = false := beq_eq_false_iff_ne.mpr (by omega)
      have t13 : ((c.toNat : Int) == 13) = false := beq_eq_false_iff_ne.mpr (by omega)
      clear hsz h128
      go_enter Tryd.func6, Tryd.ntmps6
      go_wp2_with (fail)
      refine (Alive5.any w HT.out).mono ?_
      rintro e w1 ⟨rfl, b1⟩
      have hcv := Mem.run_one_plain w1 (c.toNat : Int) c rfl
      have hb1 := b1.alloc b1.size (.cells #[.int .u8 (c.toNat : Int)] 5)
      have HT1 := Lib.hid (Go.Proofs.Utf8Tabs_below HT.out hb1)
      have HB1 := Lib.hid hb1
      clear hb1
      go_wp2_with (fail)
      refine (HW.out _ HT1.out).mono ?_
      rintro e w2 ⟨rfl, b2⟩
      go_wp2_with (fail)
      refine (HR.out _).mono ?_
      rintro e w3 ⟨rfl, b3⟩
      go_wp2
      go_ret
      have hb2 := HB1.out.trans (b2.mono HB1.out.size)
      exact ⟨Mem.ret_bool (by simp), hb2.trans (b3.mono hb2.size)⟩
    · have hn : ((q.length : Int) == 1) = true := by rw [hsz, if_neg (by omega), if_neg (by omega)]; rfl
      have t34 : ((c.toNat : Int) == 34) = false := beq_eq_false_iff_ne.mpr (by omega)
      have t92 : ((c.toNat : Int) == 92) = false := beq_eq_false_iff_ne.mpr (by omega)
      have t12 : ((c.toNat : Int) == 12) = false := beq_eq_false_iff_ne.mpr (by omega)
      have t13 : ((c.toNat : Int) == 13) = false := beq_eq_false_iff_ne.mpr (by omega)
      clear hsz h128
      go_enter Tryd.func6, Tryd.ntmps6
      go_wp2_with (fail)
      refine (Alive5.any w HT.out).mono ?_
      rintro e w1 ⟨rfl, b1⟩
      have hcv := Mem.run_one_plain w1 (c.toNat : Int) c rfl
      have hb1 := b1.alloc b1.size (.cells #[.int .u8 (c.toNat : Int)] 5)
      have HT1 := Lib.hid (Go.Proofs.Utf8Tabs_below HT.out hb1)
      have HB1 := Lib.hid hb1
      clear hb1
      go_wp2_with (fail)
      refine (HW.out _ HT1.out).mono ?_
      rintro e w2 ⟨rfl, b2⟩
      go_wp2_with (fail)
      refine (HR.out _).mono ?_
      rintro e w3 ⟨rfl, b3⟩
      go_wp2
      go_ret
      have hb2 := HB1.out.trans (b2.mono HB1.out.size)
      exact ⟨Mem.ret_bool (by simp), hb2.trans (b3.mono hb2.size)⟩
    · have hn : ((q.length : Int) == 2) = true := by rw [hsz, if_pos (by omega)]; rfl
      have t34 : ((c.toNat : Int) == 34) = false := beq_eq_false_iff_ne.mpr (by omega)
      have t92 : ((c.toNat : Int) == 92) = true := beq_iff_eq.mpr (by omega)
      have t12 : ((c.toNat : Int) == 12) = false := beq_eq_false_iff_ne.mpr (by omega)
      have t13 : ((c.toNat : Int) == 13) = false := beq_eq_false_iff_ne.mpr (by omega)
      clear hsz h128
      go_enter Tryd.func6, Tryd.ntmps6
      go_wp2_with (fail)
      refine (Alive5.any w HT.out).mono ?_
      rintro e w1 ⟨rfl, b1⟩
      have hcv := Mem.run_one_plain w1 (c.toNat : Int) c rfl
      have hb1 := b1.alloc b1.size (.cells #[.int .u8 (c.toNat : Int)] 5)
      have HT1 := Lib.hid (Go.Proofs.Utf8Tabs_below HT.out hb1)
      have HB1 := Lib.hid hb1
      clear hb1
      go_wp2_with (fail)
      refine (HW.out _ HT1.out).mono ?_
      rintro e w2 ⟨rfl, b2⟩
      go_wp2_with (fail)
      refine (HR.out _).mono ?_
      rintro e w3 ⟨rfl, b3⟩
      go_wp2
      go_ret
      have hb2 := HB1.out.trans (b2.mono HB1.out.size)
      exact ⟨Mem.ret_bool (by simp), hb2.trans (b3.mono hb2.size)⟩
    · have hn : ((q.length : Int) == 1) = true := by rw [hsz, if_neg (by omega), if_neg (by omega)]; rfl
      have t34 : ((c.toNat : Int) == 34) = false := beq_eq_false_iff_ne.mpr (by omega)
      have t92 : ((c.toNat : Int) == 92) = false := beq_eq_false_iff_ne.mpr (by omega)
      have t12 : ((c.toNat : Int) == 12) = false := beq_eq_false_iff_ne.mpr (by omega)
      have t13 : ((c.toNat : Int) == 13) = false := beq_eq_false_iff_ne.mpr (by omega)
      clear hsz h128
      go_enter Tryd.func6, Tryd.ntmps6
      go_wp2_with (fail)
      refine (Alive5.any w HT.out).mono ?_
      rintro e w1 ⟨rfl, b1⟩
      have hcv := Mem.run_one_plain w1 (c.toNat : Int) c rfl
      have hb1 := b1.alloc b1.size (.cells #[.int .u8 (c.toNat : Int)] 5)
      have HT1 := Lib.hid (Go.Proofs.Utf8Tabs_below HT.out hb1)
      have HB1 := Lib.hid hb1
      clear hb1
      go_wp2_with (fail)
      refine (HW.out _ HT1.out).mono ?_
      rintro e w2 ⟨rfl, b2⟩
      go_wp2_with (fail)
      refine (HR.out _).mono ?_
      rintro e w3 ⟨rfl, b3⟩
      go_wp2
      go_ret
      have hb2 := HB1.out.trans (b2.mono HB1.out.size)
      exact ⟨Mem.ret_bool (by simp), hb2.trans (b3.mono hb2.size)⟩

end Go.Proofs.YtnpbleaikdpjiaaDoor.escapeSigns
