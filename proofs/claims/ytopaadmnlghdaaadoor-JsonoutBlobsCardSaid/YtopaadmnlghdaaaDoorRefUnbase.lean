/- truchmanref1.Unbase: it returns what 'Base.get' says of its bytes. -/
import Derived.Test.YtopaadmnlghdaaaDoorRefBase
import Derived.Test.YtopaadmnlghdaaaDoorPlainB
namespace Go.Proofs.YtopaadmnlghdaaaDoor
open Go.RowKit
namespace RefUnbase

def ans (o : Option (List UInt8)) : Ending :=
  match o with
  | none => .returned (.tuple #[.string ⟨#[]⟩, .bool false])
  | some l => .returned (.tuple #[.string ⟨l.toArray⟩, .bool true])

set_option maxHeartbeats 2000000 in
set_option maxRecDepth 100000 in
theorem any (s : ByteArray) (w : World) (hs : s.size ≤ 100000) :
    Calls Tryd.prog 21 #[.string s] w fun e w' => e = ans (Base.get s.data.toList) ∧ Below w.heap.size w w' := by
  go_enter Tryd.func21, Tryd.ntmps21
  go_wp2
  go_loopw [4, 5, 6, 7] (fun v n u i wr => ∃ (k vn nn : Nat) (out : ByteArray), i = .int .i64 k ∧ k ≤ s.size ∧ v = .int .i64 vn ∧ n = .int .i64 nn ∧ nn = (6 * k) % 8 ∧ vn < 2 ^ nn ∧
      u = .string out ∧ Below w.heap.size w wr ∧ out.size ≤ k ∧
      Base.getGo (s.data.toList.drop k) vn nn out.data.toList = Base.getGo s.data.toList 0 0 []) (fun _ _ _ i _ => s.size - (intOf i).toNat)
  case atStart => exact ⟨0, 0, 0, ⟨#[]⟩, rfl, by omega, rfl, rfl, by omega, by omega, rfl, Below.refl _ _, by show 0 ≤ 0; omega, rfl⟩
  case round =>
    obtain ⟨k, vn, nn, out, rfl, hk, rfl, rfl, hn, hv, rfl, hbw, hal, heq⟩ := hrel
    have Heq := Lib.hid heq
    have Hn := Lib.hid hn
    have Hv := Lib.hid hv
    clear heq hv hn
    by_cases hp : k < s.size
    · have Hd := Lib.hid (Mem.drop_one s k hp)
      obtain ⟨wo, rfl⟩ : ∃ wo : World, wo = wr := ⟨_, rfl⟩
      go_wp2
      go_loopw [8, 9] (fun d j wi => ∃ jn : Nat, j = .int .i64 jn ∧ jn ≤ 64 ∧ d = .int .i64 (Base.dOf (s[k]'hp) jn) ∧ Below wo.heap.size wo wi) (fun _ j _ => 64 - (intOf j).toNat)
      case atStart => exact ⟨0, rfl, by omega, rfl, Below.refl _ _⟩
      case round =>
        obtain ⟨j, rfl, hj, rfl, hbi⟩ := hrel
        by_cases hj6 : j < 64
        · go_wp2
          go_quiet (fail)
          have hbi2 := below_drewN hbi nq
          generalize wr.drewN nq = w1 at hbi2 ⊢
          clear hbi
          go_wp2
          · have ht : (((Put.signText[j]'(show j < 64 from hj6)).toNat : Int) == ((s[k]'hp).toNat : Int)) = true := by assumption
            have h5 : Base.sign j = s[k]'hp := by
              rw [Put.sign_at j hj6 hj6] at ht
              exact UInt8.toNat_inj.1 (by have := beq_iff_eq.1 ht; omega)
            exact ⟨⟨j + 1, by go_num, by omega, by rw [Base.dOf_hit _ _ h5], hbi2⟩, by simp [intOf]; omega⟩
          · have ht : (((Put.signText[j]'(show j < 64 from hj6)).toNat : Int) == ((s[k]'hp).toNat : Int)) = false := by assumption
            have h5 : Base.sign j ≠ s[k]'hp := by
              rw [Put.sign_at j hj6 hj6] at ht
              intro h
              rw [h] at ht
              simp at ht
            exact ⟨⟨j + 1, by go_num, by omega, by rw [Base.dOf_miss _ _ h5], hbi2⟩, by simp [intOf]; omega⟩
        · obtain rfl : j = 64 := by omega
          have hbw2 : Below w.heap.size w wr := hbw.trans (hbi.mono hbw.size)
          rcases Base.val_or (s[k]'hp) with hneg | ⟨h0, h64, _⟩
          · have hd : Base.dOf (s[k]'hp) 64 = -1 := by rw [Base.dOf_val, hneg]
            have Hneg := Lib.hid hneg
            clear hneg
            go_wp2
            go_ret2
            refine ⟨?_, hbw2⟩
            have : Base.get s.data.toList = none := by
              rw [Base.get, ← Heq.out, Hd.out, Base.getGo_none _ _ _ _ _ (by have := Hneg.out; omega)]
            rw [this]
            rfl
          · obtain ⟨d, hd⟩ := Int.eq_ofNat_of_zero_le h0
            have hd64 : d < 64 := by omega
            have hdd : Base.dOf (s[k]'hp) 64 = (d : Int) := by rw [Base.dOf_val, hd]
            obtain ⟨x, hx⟩ : ∃ x : Nat, x = vn * 64 + d := ⟨_, rfl⟩
            have hvx : vn < 64 := Nat.lt_of_lt_of_le Hv.out (Nat.pow_le_pow_right (n := 2) (by decide) (show nn ≤ 6 by have := Hn.out; omega))
            have hor : (vn : Int) * 64 + (d : Int) = (x : Int) := by omega
            have HD := Lib.hid hd
            have HX := Lib.hid hx
            clear hd hx h0 h64
            rcases (show k % 4 = 0 ∨ k % 4 = 1 ∨ k % 4 = 2 ∨ k % 4 = 3 by omega) with h4 | h4 | h4 | h4
            · obtain rfl : nn = 0 := by have := Hn.out; omega
              have H4 := Lib.hid h4
              clear h4
              have hxb : x < 64 := by have := HX.out; have := Hv.out; omega
              have hma : bits .and .i64 (x : Int) 63 = (x : Int) := by
                rw [Int64.and63 x (by omega), Nat.mod_eq_of_lt hxb]
              go_wp2
              go_roundw
              case rel =>
                refine ⟨k + 1, x, 6, out, by go_num, by omega, rfl, rfl, by have := H4.out; omega, by omega, rfl, hbw2, by omega, ?_⟩
                rw [← Heq.out, Hd.out, Base.getGo_less _ _ _ _ _ (by have := HD.out; omega) (by decide), HD.out, Int.toNat_natCast, ← HX.out, Nat.mod_eq_of_lt (show x < 2 ^ (0 + 6) from hxb)]
              case measure => simp [intOf]; omega
            · obtain rfl : nn = 6 := by have := Hn.out; omega
              have H4 := Lib.hid h4
              clear h4
              have hxb : x < 4096 := by have := HX.out; have := Hv.out; omega
              obtain ⟨z, hz⟩ : ∃ z : Nat, z = x % 16 := ⟨_, rfl⟩
              have hma : bits .and .i64 (x : Int) 15 = (z : Int) := by
                have := Int64.andMask x 4 (by decide) (by omega)
                rw [hz, ← show x % 2 ^ 4 = x % 16 from rfl, ← this]; rfl
              have HZ := Lib.hid hz
              clear hz
              have hcv := Mem.run_one_plain wr ((x : Int) / 16) (UInt8.ofNat (x / 16)) (by rw [UInt8.toNat_ofNat']; omega)
              go_wp2
              go_roundw
              case rel =>
                refine ⟨k + 1, z, 4, out ++ ⟨#[UInt8.ofNat (x / 16)]⟩, by go_num, by omega, rfl, rfl, by have := H4.out; omega, by have := HZ.out; omega, rfl, hbw2.alloc hbw2.size _, ?_, ?_⟩
                · rw [ByteArray.size_append]; have : (⟨#[UInt8.ofNat (x / 16)]⟩ : ByteArray).size = 1 := rfl; omega
                · rw [← Heq.out, Hd.out, Base.getGo_more _ _ _ _ _ (by have := HD.out; omega) (by decide), HD.out, Int.toNat_natCast, ← HX.out, HZ.out]
                  rfl
              case measure => simp [intOf]; omega
            · obtain rfl : nn = 4 := by have := Hn.out; omega
              have H4 := Lib.hid h4
              clear h4
              have hxb : x < 1024 := by have := HX.out; have := Hv.out; omega
              obtain ⟨z, hz⟩ : ∃ z : Nat, z = x % 4 := ⟨_, rfl⟩
              have hma : bits .and .i64 (x : Int) 3 = (z : Int) := by
                have := Int64.andMask x 2 (by decide) (by omega)
                rw [hz, ← show x % 2 ^ 2 = x % 4 from rfl, ← this]; rfl
              have HZ := Lib.hid hz
              clear hz
              have hcv := Mem.run_one_plain wr ((x : Int) / 4) (UInt8.ofNat (x / 4)) (by rw [UInt8.toNat_ofNat']; omega)
              go_wp2
              go_roundw
              case rel =>
                refine ⟨k + 1, z, 2, out ++ ⟨#[UInt8.ofNat (x / 4)]⟩, by go_num, by omega, rfl, rfl, by have := H4.out; omega, by have := HZ.out; omega, rfl, hbw2.alloc hbw2.size _, ?_, ?_⟩
                · rw [ByteArray.size_append]; have : (⟨#[UInt8.ofNat (x / 4)]⟩ : ByteArray).size = 1 := rfl; omega
                · rw [← Heq.out, Hd.out, Base.getGo_more _ _ _ _ _ (by have := HD.out; omega) (by decide), HD.out, Int.toNat_natCast, ← HX.out, HZ.out]
                  rfl
              case measure => simp [intOf]; omega
            · obtain rfl : nn = 2 := by have := Hn.out; omega
              have H4 := Lib.hid h4
              clear h4
              have hxb : x < 256 := by have := HX.out; have := Hv.out; omega
              obtain ⟨z, hz⟩ : ∃ z : Nat, z = x % 1 := ⟨_, rfl⟩
              have hma : bits .and .i64 (x : Int) 0 = (z : Int) := by
                have := Int64.andMask x 0 (by decide) (by omega)
                rw [hz, ← show x % 2 ^ 0 = x % 1 from rfl, ← this]; rfl
              have HZ := Lib.hid hz
              clear hz
              have hcv := Mem.run_one_plain wr ((x : Int)) (UInt8.ofNat x) (by rw [UInt8.toNat_ofNat']; omega)
              go_wp2
              go_roundw
              case rel =>
                refine ⟨k + 1, z, 0, out ++ ⟨#[UInt8.ofNat x]⟩, by go_num, by omega, rfl, rfl, by have := H4.out; omega, by have := HZ.out; omega, rfl, hbw2.alloc hbw2.size _, ?_, ?_⟩
                · rw [ByteArray.size_append]; have : (⟨#[UInt8.ofNat x]⟩ : ByteArray).size = 1 := rfl; omega
                · rw [← Heq.out, Hd.out, Base.getGo_more _ _ _ _ _ (by have := HD.out; omega) (by decide), HD.out, Int.toNat_natCast, ← HX.out, HZ.out]
                  simp
              case measure => simp [intOf]; omega
    · have hd0 := Mem.drop_none s k (by omega)
      have Hd := Lib.hid hd0
      clear hd0
      by_cases hpe : Base.put out.data.toList = s.data.toList
      · have hb : (Base.put out.data.toList == s.toList) = true := by rw [Mem.toList_eq, hpe]; simp
        have Hpe := Lib.hid hpe
        clear hpe
        go_wp2_with (fail)
        refine (RefBase.any out _ (by omega)).mono ?_
        rintro e W1 ⟨rfl, rfl⟩
        go_wp2
        go_ret2
        refine ⟨?_, hbw⟩
        have H : Base.get s.data.toList = some out.data.toList := by
          have h0 := Heq.out
          rw [Hd.out] at h0
          simp only [Base.getGo] at h0
          rw [Base.get, ← h0]
          simp only []
          rw [if_pos Hpe.out]
        rw [H, ans, Mem.mk_data]
        rfl
      · have hb : (Base.put out.data.toList == s.toList) = false := by rw [Mem.toList_eq]; simpa using hpe
        have Hpe := Lib.hid hpe
        clear hpe
        go_wp2_with (fail)
        refine (RefBase.any out _ (by omega)).mono ?_
        rintro e W1 ⟨rfl, rfl⟩
        go_wp2
        go_ret2
        refine ⟨?_, hbw⟩
        have H : Base.get s.data.toList = none := by
          have h0 := Heq.out
          rw [Hd.out] at h0
          simp only [Base.getGo] at h0
          rw [Base.get, ← h0]
          simp only []
          rw [if_neg Hpe.out]
        rw [H]
        rfl
end RefUnbase
end Go.Proofs.YtopaadmnlghdaaaDoor
