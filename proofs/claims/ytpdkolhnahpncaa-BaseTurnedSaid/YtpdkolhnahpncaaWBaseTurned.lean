/- BaseTurned: the walk. -/
import Derived.Test.YtpdkolhnahpncaaAlive8
import Derived.Test.YtpdkolhnahpncaaPlainB
import Derived.Deep.RegionWith
import Derived.BigRegion
namespace Go.Proofs.Ytpdkolhnahpncaa.baseTurned
open Go.RowKit

set_option maxHeartbeats 2000000 in
theorem walk (a0 : ByteArray) (a1 : Int) (a2 : Int) (_w0 : a0.size ≤ maxLen) (_w1 : (Lit.int .i64 a1).wf = true) (w2 : (Lit.int .u8 a2).wf = true) (w : World) :
    Calls Try.prog 6 #[.string a0, .int .i64 a1, .int .u8 a2] w fun e w' => e = .returned (.bool true) ∧ Below w.heap.size w w' := by
  obtain ⟨c, rfl⟩ := Int64.byte_of a2 w2
  rcases (show a0.size < 1 ∨ 200 < a0.size ∨ (1 ≤ a0.size ∧ a0.size ≤ 200) by omega) with h1 | h1 | ⟨h1, h2⟩
  · go_enter Try.func6, Try.ntmps6
    go_wp2_with (fail)
    refine (Alive8.any w).mono ?_
    rintro e w1 ⟨rfl, b1⟩
    go_wp2
    go_ret
    exact ⟨rfl, b1⟩
  · go_enter Try.func6, Try.ntmps6
    go_wp2_with (fail)
    refine (Alive8.any w).mono ?_
    rintro e w1 ⟨rfl, b1⟩
    go_wp2
    go_ret
    exact ⟨rfl, b1⟩
  · have hsz : a0.data.toList.length = a0.size := Array.length_toList
    have hlen := Base.put_length a0.data.toList
    have hl : (Base.put a0.data.toList).length ≤ 400 := by omega
    have hl1 : 2 ≤ (Base.put a0.data.toList).length := by omega
    clear hlen hsz
    go_enter Try.func6, Try.ntmps6
    go_wp2_with (fail)
    refine (Alive8.any w).mono ?_
    rintro e W1 ⟨rfl, b1⟩
    go_wp2_with (fail)
    refine (Put.any a0 W1 (by omega)).mono ?_
    rintro e W2 ⟨rfl, b2⟩
    obtain ⟨p, hp⟩ : ∃ p : ByteArray, p = ⟨(Base.put a0.data.toList).toArray⟩ := ⟨_, rfl⟩
    rw [← hp]
    have hpl : p.size = (Base.put a0.data.toList).length := by rw [hp, Mem.size_mk]
    have hp5 : p.size ≤ 400 := by omega
    have hp1 : 2 ≤ p.size := by omega
    have HP := Lib.hid hp
    clear hp hpl hl hl1
    have hne : p.toList.isEmpty = false := by
      rw [Mem.toList_eq]
      have : p.data.toList.length = p.size := Array.length_toList
      cases hq : p.data.toList with
      | nil => rw [hq] at this; simp at this; omega
      | cons a b => rfl
    obtain ⟨k, hk, hke⟩ := Int64.slot a1 p.size (by omega) (by omega)
    by_cases hpc : p[k]'hk = c
    · have hb : (((p[k]'hk).toNat : Int) == (c.toNat : Int)) = true := by rw [hpc]; simp
      clear hpc
      go_wp2
      go_ret
      exact ⟨rfl, b1.trans (b2.mono b1.size)⟩
    · have hb : (((p[k]'hk).toNat : Int) == (c.toNat : Int)) = false := by
        have : ¬ (p[k]'hk).toNat = c.toNat := fun h => hpc (UInt8.toNat_inj.1 h)
        simp
        omega
      have hcv := Mem.run_one W2 c
      have hps : (⟨#[61]⟩ : ByteArray).size = 1 := rfl
      have hpc1 : (⟨#[c]⟩ : ByteArray).size = 1 := rfl
      have hq : (p.extract 0 k ++ ⟨#[c]⟩ ++ p.extract (k + 1) p.size).size ≤ 100000 := by
        rw [ByteArray.size_append, ByteArray.size_append, ByteArray.size_extract, ByteArray.size_extract, hpc1]
        omega
      have hq2 : (p ++ ⟨#[61]⟩).size ≤ 100000 := by
        rw [ByteArray.size_append, hps]
        omega
      have hg2 : Base.get (p ++ ⟨#[61]⟩).data.toList = none := Base.get_bad _ ⟨61, by simp, by decide +kernel⟩
      have hall : ∀ W3 W4 : World, Below (W2.alloc (.cells #[.int .u8 (c.toNat : Int)] 5)).drew.heap.size (W2.alloc (.cells #[.int .u8 (c.toNat : Int)] 5)).drew W3 → Below W3.heap.size W3 W4 → Below w.heap.size w W4 := by
        intro W3 W4 b3 b4
        have hb2 : Below w.heap.size w W2 := b1.trans (b2.mono b1.size)
        have hb3 := (hb2.alloc hb2.size (.cells #[.int .u8 (c.toNat : Int)] 5)).drew
        have hb4 := hb3.trans (b3.mono hb3.size)
        exact hb4.trans (b4.mono hb4.size)
      have Hg2 := Lib.hid (Get.of_none _ hq2 hg2)
      have Hall := Lib.hid hall
      clear hall hg2 hps hpc1
      have HPC := Lib.hid hpc
      clear hpc
      have hk0 : (0 : Int) ≤ (k : Int) + 1 := by omega
      have hk1 : (k : Int) + 1 ≤ (p.size : Int) := by omega
      have hwr : IntKind.i64.wrap ((k : Int) + 1) = (k : Int) + 1 := IntWalk.i64_in _ (by omega)
      have hsl : ∀ wx, (Instr.slice 9 (.string p) (some (.int .i64 ((k : Int) + 1))) none none).run Try.prog wx = .ok (.string (p.extract (k + 1) p.size)) wx := by
        intro wx
        rw [run_slice_string_from_if wx _ _ _ _ Try.underlying9, if_pos ⟨by omega, by omega⟩]
        rfl
      have Hq := Lib.hid hq
      clear hq hq2
      cases hg : Base.get (p.extract 0 k ++ ⟨#[c]⟩ ++ p.extract (k + 1) p.size).data.toList with
      | none =>
        have Hg := Lib.hid (Get.of_none _ Hq.out hg)
        clear hg
        go_wp2
        go_region_with (go_at_call 10; refine (Hg.out _).mono ?_; rintro e W3 ⟨rfl, b3⟩)
        all_goals
          rename_i W3 b3
          have B3 := Lib.hid b3
          clear b3
          go_wp2_with (fail)
          refine (Hg2.out W3).mono ?_
          rintro e W4 ⟨rfl, b4⟩
          go_wp2
          go_ret
          exact ⟨rfl, Hall.out W3 W4 B3.out b4⟩
      | some out =>
        have hne2 : (out == a0.toList) = false := by
          rw [Mem.toList_eq]
          have h1 := Base.get_some hg
          have : ¬ out = a0.data.toList := by
            intro h2
            rw [h2] at h1
            apply HPC.out
            have h3 : p.data.toList = (p.extract 0 k ++ ⟨#[c]⟩ ++ p.extract (k + 1) p.size).data.toList := by
              rw [← h1, HP.out]
            have h4 : p = p.extract 0 k ++ ⟨#[c]⟩ ++ p.extract (k + 1) p.size := by
              apply ByteArray.ext
              apply Array.toList_inj.1
              exact h3
            exact Mem.turned_at p k c hk h4
          simpa using this
        have Hg := Lib.hid (Get.of_some _ Hq.out _ hg)
        clear hg
        go_wp2
        go_region_with (go_at_call 10; refine (Hg.out _).mono ?_; rintro e W3 ⟨rfl, b3⟩)
        all_goals
          rename_i W3 b3
          have B3 := Lib.hid b3
          clear b3
          go_wp2_with (fail)
          refine (Hg2.out W3).mono ?_
          rintro e W4 ⟨rfl, b4⟩
          go_wp2
          go_ret
          exact ⟨rfl, Hall.out W3 W4 B3.out b4⟩
end Go.Proofs.Ytpdkolhnahpncaa.baseTurned
