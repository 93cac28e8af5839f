/- Texts of the walk, joined. -/
import Derived.Test.YtnnkkgglfajmhaaGreatM19
import Derived.Test.YtnnkkgglfajmhaaGreatM30
import Derived.Test.YtnnkkgglfajmhaaGreatM36
import Derived.Test.YtnnkkgglfajmhaaGreatM41
import Derived.Deep.RegionLaw
import Derived.Deep.RegionWith
set_option maxRecDepth 100000
set_option maxHeartbeats 8000000
namespace Go.Proofs.YtnnkkgglfajmhaaGreat
section
open Go.RowKit
open Json (Part)
namespace Pip
section
variable {p : Pin} {b : Nat} {h : Own.Heap} {w : World}
theorem pitem_any {n : Nat} (hi : p.Is b h) (hw : Own.Has w h) (hf : p.Fits n) (hn : n ≤ 1000000) (x : UInt8) :
  Calls Tryz.prog 147 #[.pointer (some ⟨b, 0, none⟩), .int .u8 (x.toNat : Int)] w (PinDoes (p.item x) b h w) := by
 have hlt := UInt8.toNat_lt x
 by_cases g0 : x.toNat ≤ 127
 ·exact pitem_0 hi hw hf hn x (by omega) g0
 by_cases g128 : x.toNat ≤ 143
 ·exact pitem_128 hi hw hf hn x (by omega) g128
 by_cases g144 : x.toNat ≤ 159
 ·exact pitem_144 hi hw hf hn x (by omega) g144
 by_cases g160 : x.toNat ≤ 191
 ·exact pitem_160 hi hw hf hn x (by omega) g160
 by_cases g192 : x.toNat ≤ 192
 ·exact pitem_192 hi hw hf hn x (by omega) g192
 by_cases g193 : x.toNat ≤ 193
 ·exact pitem_193 hi hw hf hn x (by omega) g193
 by_cases g194 : x.toNat ≤ 194
 ·exact pitem_194 hi hw hf hn x (by omega) g194
 by_cases g195 : x.toNat ≤ 195
 ·exact pitem_195 hi hw hf hn x (by omega) g195
 by_cases g196 : x.toNat ≤ 198
 ·exact pitem_196 hi hw hf hn x (by omega) g196
 by_cases g199 : x.toNat ≤ 201
 ·exact pitem_199 hi hw hf hn x (by omega) g199
 by_cases g202 : x.toNat ≤ 202
 ·exact pitem_202 hi hw hf hn x (by omega) g202
 by_cases g203 : x.toNat ≤ 203
 ·exact pitem_203 hi hw hf hn x (by omega) g203
 by_cases g204 : x.toNat ≤ 211
 ·exact pitem_204 hi hw hf hn x (by omega) g204
 by_cases g212 : x.toNat ≤ 216
 ·exact pitem_212 hi hw hf hn x (by omega) g212
 by_cases g217 : x.toNat ≤ 219
 ·exact pitem_217 hi hw hf hn x (by omega) g217
 by_cases g220 : x.toNat ≤ 223
 ·exact pitem_220 hi hw hf hn x (by omega) g220
 exact pitem_224 hi hw hf hn x (by omega) (by omega)
end
end Pip
end
section
open Go.RowKit
open Json (Part)
namespace Pip
theorem i64_not_neg (m : Nat) (hm : m < 9223372036854775808) : bits .xor .i64 (-1) (-1 - (m : Int)) = (m : Int) := by
 show IntKind.i64.wrap ((BitVec.ofInt 64 (-1) ^^^ BitVec.ofInt 64 (-1 - (m : Int))).toNat : Int) = _
 have h1 : BitVec.ofInt 64 (-1) = BitVec.allOnes 64 := by decide
 rw [h1, BitVec.allOnes_xor, BitVec.toNat_not, BitVec.toNat_ofInt]
 simp [IntKind.wrap, IntKind.bits, IntKind.signed]
 omega
section
variable {p : Pin} {b : Nat} {h : Own.Heap} {w : World}
theorem pnumber_any {n : Nat} (hi : p.Is b h) (hw : Own.Has w h) (hf : p.Fits n) (hn : n ≤ 1000000) (h0 : p.c.e = 0) (hk : p.kind ≠ 0) (x : UInt8) :
  Calls Tryz.prog 146 #[.pointer (some ⟨b, 0, none⟩), .int .u8 (x.toNat : Int)] w (PinDoes (p.number x) b h w) := by
 have hlt := UInt8.toNat_lt x
 have hvlt := Pin.num_lt hf h0 hk x
 obtain ⟨g1, g2, g3, g4, g5, g6⟩ := hf.busy h0 hk
 have hk6 := hf.kind
 have hle : 256 ^ (p.all - (p.lack - 1)) ≤ 256 ^ p.all := Nat.pow_le_pow_right (by decide) (Nat.sub_le _ _)
 have h64 := pow256_le p.all g3
 obtain ⟨V, hV⟩ : ∃ V, V = (p.v * 256 + x.toNat) % 18446744073709551616 := ⟨_, rfl⟩
 have hVa : V < 256 ^ p.all := by rw [hV, Nat.mod_eq_of_lt (by omega)]; omega
 have hor := or64 p.v x.toNat hlt
 rw [← hV] at hor
 obtain ⟨K, hK⟩ : ∃ K, K = p.lack - 1 := ⟨_, rfl⟩
 have hkm : (p.lack : Int) - 1 = (K : Int) := by omega
 have hK8 : K < 8 := by omega
 have HP0 : p.number x = if 1 < p.lack then (⟨p.c, p.kind, K, p.all, V⟩, []) else (Pin.mk p.c 0 K p.all V).behind p.kind V := by rw [hK, hV]; rfl
 obtain ⟨c12, c13, c14, c15⟩ := hi.cells_ hw
 have f12 := Core.Is.free hi hw 12
 have f13 := Core.Is.free hi hw 13
 have f15 := Core.Is.free hi hw 15
 have HI := hhh hi
 have T1 := hhh (show ∃ h', (Pin.mk p.c p.kind K p.all V).Is b h' ∧ Own.Turn h h' w ((w.setCell ⟨b, 15, none⟩ (.int .u64 (V : Int))).setCell ⟨b, 13, none⟩ (.int .i64 (K : Int))) by
  obtain ⟨ov, sv, ho, hs, h1, h2, rfl⟩ := hi
  exact ⟨_, ⟨ov, sv, ho, hs, h1, h2, rfl⟩, ((Own.Turn.refl hw).put 15 (.int .u64 (V : Int)) _ rfl).put 13 (.int .i64 (K : Int)) _ rfl⟩)
 have T2 := hhh (show ∃ h', (Pin.mk p.c 0 K p.all V).Is b h' ∧ Own.Turn h h' w (((w.setCell ⟨b, 15, none⟩ (.int .u64 (V : Int))).setCell ⟨b, 13, none⟩ (.int .i64 (K : Int))).setCell ⟨b, 12, none⟩ (.int .i64 0)) by
  obtain ⟨ov, sv, ho, hs, h1, h2, rfl⟩ := hi
  exact ⟨_, ⟨ov, sv, ho, hs, h1, h2, rfl⟩, (((Own.Turn.refl hw).put 15 (.int .u64 (V : Int)) _ rfl).put 13 (.int .i64 (K : Int)) _ rfl).put 12 (.int .i64 0) _ rfl⟩)
 have HFc := hhh hf.c
 have Hn := hhh hn
 have HVa := hhh hVa
 have HPh := hhh HP0
 generalize p.number x = O at HPh ⊢
 have fin : ∀ P : Pin × List Part, O = P → ∀ (e : Ending) (w' : World), PinDoes P b h w e w' → PinDoes O b h w e w' := fun P hP e w' hd => hP ▸ hd
 have Fin := hhh fin
 by_cases hl : 1 < p.lack
 ·have HP := hhh (HPh.out.trans (if_pos hl))
  have hKI : (0 : Int) < (K : Int) := by omega
  obtain ⟨h2, i2, t2⟩ := T1.out
  have HI2 := hhh i2
  have HT2 := hhh t2
  clear hi hw hf HP0 hle h64 hV hVa hvlt hK T1 T2 hl g1 g2 g3 g4 g5 g6 hk h0 hn fin hk6 i2 t2 HPh
  go_enter Tryz.func146, Tryz.ntmps146
  go_wp2_with (fail)
  go_ret
  exact Fin.out _ HP.out _ _ ⟨_, [], h2, rfl, .bare _ rfl, HI2.out, HT2.out⟩
 ·have HPn := hhh (HPh.out.trans (if_neg hl))
  obtain rfl : K = 0 := by omega
  obtain ⟨h2, i2, t2⟩ := T2.out
  have HI2 := hhh i2
  have HT2 := hhh t2
  have HVal := hhh (fun n v => cvalue_any i2 (t2.drewN n).has HFc.out Hn.out v)
  have HLe := hhh (fun n wd m => clength_any i2 (t2.drewN n).has HFc.out Hn.out wd m)
  have HCo := hhh (fun n pr m => pcount_any i2 (t2.drewN n).has HFc.out Hn.out pr m)
  have HVal0 := hhh (fun v => cvalue_any i2 t2.has HFc.out Hn.out v)
  have HLe0 := hhh (fun wd m => clength_any i2 t2.has HFc.out Hn.out wd m)
  have HCo0 := hhh (fun pr m => pcount_any i2 t2.has HFc.out Hn.out pr m)
  obtain ⟨M, hM⟩ : ∃ M, M = p.kind := ⟨_, rfl⟩
  obtain ⟨A, hA⟩ : ∃ A, A = p.all := ⟨_, rfl⟩
  rw [← hM] at c12 HPn
  rw [← hA] at c14 HVa
  have Hq := hhh (And.intro hA g3)
  have hM1 : 1 ≤ M := by omega
  have hM6 : M ≤ 6 := by omega
  clear hi hw hf HP0 hle h64 hV hVa hvlt hK T1 T2 hl g1 g2 g3 g4 g5 g6 hk h0 hn fin hk6 i2 t2 HPh hM hA
  rcases (show M = 1 ∨ M = 2 ∨ M = 3 ∨ M = 4 ∨ M = 5 ∨ M = 6 by omega) with rfl | rfl | rfl | rfl | rfl | rfl
  ·have HP := hhh (HPn.out.trans (show _ = (Pin.mk p.c 0 0 p.all V).on (p.c.value (.whole false V)) from rfl))
   clear HPn
   go_enter Tryz.func146, Tryz.ntmps146
   go_wp2_with (fail)
   go_region_with (go_at_call 134; (first | refine (HVal.out _ (.whole false V)).mono ?_ | refine (HVal0.out (.whole false V)).mono ?_); rintro e w4 ⟨v, hv, h4, rfl, hs, i4, t4⟩)
   all_goals
    have HI4 := hhh i4
    have HT4 := hhh ((HT2.out.drewN _).trans t4)
    have HS4 := hhh hs
    clear i4 t4 hs
    go_wp2
    go_ret
    exact Fin.out _ HP.out _ _ ⟨_, hv, h4, rfl, HS4.out, HI4.out, HT4.out⟩
  ·clear HVal HCo HCo0 HLe HLe0
   obtain ⟨hA, g3⟩ := Hq.out
   rw [← hA] at g3
   have HA := hhh hA
   clear hA Hq
   rcases g3 with rfl | rfl | rfl | rfl
   ·have hVa := HVa.out
    simp only [Nat.reducePow] at hVa
    by_cases hs : V < 128
    ·have HP := hhh (HPn.out.trans (show _ = (Pin.mk p.c 0 0 p.all V).on (p.c.value (.whole false V)) by
      rw [← HA.out]
      show (Pin.mk p.c 0 0 1 V).on (p.c.value (.whole (signed V 1).1 (signed V 1).2)) = _
      rw [show signed V 1 = (false, V) by unfold signed; rw [if_pos (by simpa using hs)]]))
     have e1 : wrap64 (IntKind.u64.wrap ((V : Int) * 72057594037927936)) / 72057594037927936 = (V : Int) := by unfold wrap64; rw [IntKind.wrap_u64]; omega
     have e2 : IntKind.u64.wrap (V : Int) = (V : Int) := by rw [IntKind.wrap_u64]; omega
     have HVv := hhh (HVal0.out (.whole false V))
     clear HPn HVal0 HVa hVa HA hs
     go_enter Tryz.func146, Tryz.ntmps146
     go_wp2_with (fail)
     refine (HVv.out).mono ?_
     rintro e w4 ⟨v, hv, h4, rfl, hs, i4, t4⟩
     have HI4 := hhh i4
     have HT4 := hhh (HT2.out.trans t4)
     have HS4 := hhh hs
     clear i4 t4 hs HVv
     go_wp2
     go_ret
     exact Fin.out _ HP.out _ _ ⟨_, hv, h4, rfl, HS4.out, HI4.out, HT4.out⟩
    ·obtain ⟨m, hm⟩ : ∃ m, m = 255 - V := ⟨_, rfl⟩
     have HP := hhh (HPn.out.trans (show _ = (Pin.mk p.c 0 0 p.all V).on (p.c.value (.whole true m)) by
      rw [← HA.out]
      show (Pin.mk p.c 0 0 1 V).on (p.c.value (.whole (signed V 1).1 (signed V 1).2)) = _
      rw [show signed V 1 = (true, m) by unfold signed; rw [if_neg (by simpa using hs), hm]]))
     obtain ⟨Y, hY⟩ : ∃ Y : Int, Y = -1 - (m : Int) := ⟨_, rfl⟩
     have e1 : wrap64 (IntKind.u64.wrap ((V : Int) * 72057594037927936)) / 72057594037927936 = Y := by unfold wrap64; rw [IntKind.wrap_u64]; omega
     have e2 : bits .xor .i64 (-1) Y = (m : Int) := by rw [hY]; exact i64_not_neg m (by omega)
     have e3 : IntKind.u64.wrap (m : Int) = (m : Int) := by rw [IntKind.wrap_u64]; omega
     have e4 : Y < 0 := by omega
     have HVv := hhh (HVal0.out (.whole true m))
     clear HPn HVal0 HVa hVa HA hs hY hm
     go_enter Tryz.func146, Tryz.ntmps146
     go_wp2_with (fail)
     refine (HVv.out).mono ?_
     rintro e w4 ⟨v, hv, h4, rfl, hs, i4, t4⟩
     have HI4 := hhh i4
     have HT4 := hhh (HT2.out.trans t4)
     have HS4 := hhh hs
     clear i4 t4 hs HVv
     go_wp2
     go_ret
     exact Fin.out _ HP.out _ _ ⟨_, hv, h4, rfl, HS4.out, HI4.out, HT4.out⟩
   ·have hVa := HVa.out
    simp only [Nat.reducePow] at hVa
    by_cases hs : V < 32768
    ·have HP := hhh (HPn.out.trans (show _ = (Pin.mk p.c 0 0 p.all V).on (p.c.value (.whole false V)) by
      rw [← HA.out]
      show (Pin.mk p.c 0 0 2 V).on (p.c.value (.whole (signed V 2).1 (signed V 2).2)) = _
      rw [show signed V 2 = (false, V) by unfold signed; rw [if_pos (by simpa using hs)]]))
     have e1 : wrap64 (IntKind.u64.wrap ((V : Int) * 281474976710656)) / 281474976710656 = (V : Int) := by unfold wrap64; rw [IntKind.wrap_u64]; omega
     have e2 : IntKind.u64.wrap (V : Int) = (V : Int) := by rw [IntKind.wrap_u64]; omega
     have HVv := hhh (HVal0.out (.whole false V))
     clear HPn HVal0 HVa hVa HA hs
     go_enter Tryz.func146, Tryz.ntmps146
     go_wp2_with (fail)
     refine (HVv.out).mono ?_
     rintro e w4 ⟨v, hv, h4, rfl, hs, i4, t4⟩
     have HI4 := hhh i4
     have HT4 := hhh (HT2.out.trans t4)
     have HS4 := hhh hs
     clear i4 t4 hs HVv
     go_wp2
     go_ret
     exact Fin.out _ HP.out _ _ ⟨_, hv, h4, rfl, HS4.out, HI4.out, HT4.out⟩
    ·obtain ⟨m, hm⟩ : ∃ m, m = 65535 - V := ⟨_, rfl⟩
     have HP := hhh (HPn.out.trans (show _ = (Pin.mk p.c 0 0 p.all V).on (p.c.value (.whole true m)) by
      rw [← HA.out]
      show (Pin.mk p.c 0 0 2 V).on (p.c.value (.whole (signed V 2).1 (signed V 2).2)) = _
      rw [show signed V 2 = (true, m) by unfold signed; rw [if_neg (by simpa using hs), hm]]))
     obtain ⟨Y, hY⟩ : ∃ Y : Int, Y = -1 - (m : Int) := ⟨_, rfl⟩
     have e1 : wrap64 (IntKind.u64.wrap ((V : Int) * 281474976710656)) / 281474976710656 = Y := by unfold wrap64; rw [IntKind.wrap_u64]; omega
     have e2 : bits .xor .i64 (-1) Y = (m : Int) := by rw [hY]; exact i64_not_neg m (by omega)
     have e3 : IntKind.u64.wrap (m : Int) = (m : Int) := by rw [IntKind.wrap_u64]; omega
     have e4 : Y < 0 := by omega
     have HVv := hhh (HVal0.out (.whole true m))
     clear HPn HVal0 HVa hVa HA hs hY hm
     go_enter Tryz.func146, Tryz.ntmps146
     go_wp2_with (fail)
     refine (HVv.out).mono ?_
     rintro e w4 ⟨v, hv, h4, rfl, hs, i4, t4⟩
     have HI4 := hhh i4
     have HT4 := hhh (HT2.out.trans t4)
     have HS4 := hhh hs
     clear i4 t4 hs HVv
     go_wp2
     go_ret
     exact Fin.out _ HP.out _ _ ⟨_, hv, h4, rfl, HS4.out, HI4.out, HT4.out⟩
   ·have hVa := HVa.out
    simp only [Nat.reducePow] at hVa
    by_cases hs : V < 2147483648
    ·have HP := hhh (HPn.out.trans (show _ = (Pin.mk p.c 0 0 p.all V).on (p.c.value (.whole false V)) by
      rw [← HA.out]
      show (Pin.mk p.c 0 0 4 V).on (p.c.value (.whole (signed V 4).1 (signed V 4).2)) = _
      rw [show signed V 4 = (false, V) by unfold signed; rw [if_pos (by simpa using hs)]]))
     have e1 : wrap64 (IntKind.u64.wrap ((V : Int) * 4294967296)) / 4294967296 = (V : Int) := by unfold wrap64; rw [IntKind.wrap_u64]; omega
     have e2 : IntKind.u64.wrap (V : Int) = (V : Int) := by rw [IntKind.wrap_u64]; omega
     have HVv := hhh (HVal0.out (.whole false V))
     clear HPn HVal0 HVa hVa HA hs
     go_enter Tryz.func146, Tryz.ntmps146
     go_wp2_with (fail)
     refine (HVv.out).mono ?_
     rintro e w4 ⟨v, hv, h4, rfl, hs, i4, t4⟩
     have HI4 := hhh i4
     have HT4 := hhh (HT2.out.trans t4)
     have HS4 := hhh hs
     clear i4 t4 hs HVv
     go_wp2
     go_ret
     exact Fin.out _ HP.out _ _ ⟨_, hv, h4, rfl, HS4.out, HI4.out, HT4.out⟩
    ·obtain ⟨m, hm⟩ : ∃ m, m = 4294967295 - V := ⟨_, rfl⟩
     have HP := hhh (HPn.out.trans (show _ = (Pin.mk p.c 0 0 p.all V).on (p.c.value (.whole true m)) by
      rw [← HA.out]
      show (Pin.mk p.c 0 0 4 V).on (p.c.value (.whole (signed V 4).1 (signed V 4).2)) = _
      rw [show signed V 4 = (true, m) by unfold signed; rw [if_neg (by simpa using hs), hm]]))
     obtain ⟨Y, hY⟩ : ∃ Y : Int, Y = -1 - (m : Int) := ⟨_, rfl⟩
     have e1 : wrap64 (IntKind.u64.wrap ((V : Int) * 4294967296)) / 4294967296 = Y := by unfold wrap64; rw [IntKind.wrap_u64]; omega
     have e2 : bits .xor .i64 (-1) Y = (m : Int) := by rw [hY]; exact i64_not_neg m (by omega)
     have e3 : IntKind.u64.wrap (m : Int) = (m : Int) := by rw [IntKind.wrap_u64]; omega
     have e4 : Y < 0 := by omega
     have HVv := hhh (HVal0.out (.whole true m))
     clear HPn HVal0 HVa hVa HA hs hY hm
     go_enter Tryz.func146, Tryz.ntmps146
     go_wp2_with (fail)
     refine (HVv.out).mono ?_
     rintro e w4 ⟨v, hv, h4, rfl, hs, i4, t4⟩
     have HI4 := hhh i4
     have HT4 := hhh (HT2.out.trans t4)
     have HS4 := hhh hs
     clear i4 t4 hs HVv
     go_wp2
     go_ret
     exact Fin.out _ HP.out _ _ ⟨_, hv, h4, rfl, HS4.out, HI4.out, HT4.out⟩
   ·have hVa := HVa.out
    simp only [Nat.reducePow] at hVa
    by_cases hs : V < 9223372036854775808
    ·have HP := hhh (HPn.out.trans (show _ = (Pin.mk p.c 0 0 p.all V).on (p.c.value (.whole false V)) by
      rw [← HA.out]
      show (Pin.mk p.c 0 0 8 V).on (p.c.value (.whole (signed V 8).1 (signed V 8).2)) = _
      rw [show signed V 8 = (false, V) by unfold signed; rw [if_pos (by simpa using hs)]]))
     have e1 : wrap64 (V : Int) = (V : Int) := by unfold wrap64; omega
     have e2 : IntKind.u64.wrap (V : Int) = (V : Int) := by rw [IntKind.wrap_u64]; omega
     have HVv := hhh (HVal0.out (.whole false V))
     clear HPn HVal0 HVa hVa HA hs
     go_enter Tryz.func146, Tryz.ntmps146
     go_wp2_with (fail)
     refine (HVv.out).mono ?_
     rintro e w4 ⟨v, hv, h4, rfl, hs, i4, t4⟩
     have HI4 := hhh i4
     have HT4 := hhh (HT2.out.trans t4)
     have HS4 := hhh hs
     clear i4 t4 hs HVv
     go_wp2
     go_ret
     exact Fin.out _ HP.out _ _ ⟨_, hv, h4, rfl, HS4.out, HI4.out, HT4.out⟩
    ·obtain ⟨m, hm⟩ : ∃ m, m = 18446744073709551615 - V := ⟨_, rfl⟩
     have HP := hhh (HPn.out.trans (show _ = (Pin.mk p.c 0 0 p.all V).on (p.c.value (.whole true m)) by
      rw [← HA.out]
      show (Pin.mk p.c 0 0 8 V).on (p.c.value (.whole (signed V 8).1 (signed V 8).2)) = _
      rw [show signed V 8 = (true, m) by unfold signed; rw [if_neg (by simpa using hs), hm]]))
     obtain ⟨Y, hY⟩ : ∃ Y : Int, Y = -1 - (m : Int) := ⟨_, rfl⟩
     have e1 : wrap64 (IntKind.u64.wrap (V : Int)) = Y := by unfold wrap64; rw [IntKind.wrap_u64]; omega
     have e2 : bits .xor .i64 (-1) Y = (m : Int) := by rw [hY]; exact i64_not_neg m (by omega)
     have e3 : IntKind.u64.wrap (m : Int) = (m : Int) := by rw [IntKind.wrap_u64]; omega
     have e4 : Y < 0 := by omega
     have HVv := hhh (HVal0.out (.whole true m))
     clear HPn HVal0 HVa hVa HA hs hY hm
     go_enter Tryz.func146, Tryz.ntmps146
     go_wp2_with (fail)
     refine (HVv.out).mono ?_
     rintro e w4 ⟨v, hv, h4, rfl, hs, i4, t4⟩
     have HI4 := hhh i4
     have HT4 := hhh (HT2.out.trans t4)
     have HS4 := hhh hs
     clear i4 t4 hs HVv
     go_wp2
     go_ret
     exact Fin.out _ HP.out _ _ ⟨_, hv, h4, rfl, HS4.out, HI4.out, HT4.out⟩
  ·have HP := hhh (HPn.out.trans (show _ = (Pin.mk p.c 0 0 p.all V).on (p.c.length false V) from rfl))
   clear HPn HVal HCo HVal0 HCo0
   go_enter Tryz.func146, Tryz.ntmps146
   go_wp2_with (fail)
   go_region_with (go_at_call 135; (first | refine (HLe.out _ false V).mono ?_ | refine (HLe0.out false V).mono ?_); rintro e w4 ⟨v, hv, h4, rfl, hs, i4, t4⟩)
   all_goals
    have HI4 := hhh i4
    have HT4 := hhh ((HT2.out.drewN _).trans t4)
    have HS4 := hhh hs
    clear i4 t4 hs
    go_wp2
    go_ret
    exact Fin.out _ HP.out _ _ ⟨_, hv, h4, rfl, HS4.out, HI4.out, HT4.out⟩
  ·have HP := hhh (HPn.out.trans (show _ = (Pin.mk p.c 0 0 p.all V).on (p.c.length true V) from rfl))
   clear HPn HVal HCo HVal0 HCo0
   go_enter Tryz.func146, Tryz.ntmps146
   go_wp2_with (fail)
   go_region_with (go_at_call 135; (first | refine (HLe.out _ true V).mono ?_ | refine (HLe0.out true V).mono ?_); rintro e w4 ⟨v, hv, h4, rfl, hs, i4, t4⟩)
   all_goals
    have HI4 := hhh i4
    have HT4 := hhh ((HT2.out.drewN _).trans t4)
    have HS4 := hhh hs
    clear i4 t4 hs
    go_wp2
    go_ret
    exact Fin.out _ HP.out _ _ ⟨_, hv, h4, rfl, HS4.out, HI4.out, HT4.out⟩
  ·have HP := hhh (HPn.out.trans (show _ = (Pin.mk p.c 0 0 p.all V).count false V from rfl))
   clear HPn HVal HLe HVal0 HLe0
   go_enter Tryz.func146, Tryz.ntmps146
   go_wp2_with (fail)
   refine (HCo0.out false V).mono ?_
   rintro e w4 ⟨v, hv, h4, rfl, hs, i4, t4⟩
   have HI4 := hhh i4
   have HT4 := hhh (HT2.out.trans t4)
   have HS4 := hhh hs
   clear i4 t4 hs
   go_wp2
   go_ret
   exact Fin.out _ HP.out _ _ ⟨_, hv, h4, rfl, HS4.out, HI4.out, HT4.out⟩
  ·have HP := hhh (HPn.out.trans (show _ = (Pin.mk p.c 0 0 p.all V).count true V from rfl))
   clear HPn HVal HLe HVal0 HLe0
   go_enter Tryz.func146, Tryz.ntmps146
   go_wp2_with (fail)
   refine (HCo0.out true V).mono ?_
   rintro e w4 ⟨v, hv, h4, rfl, hs, i4, t4⟩
   have HI4 := hhh i4
   have HT4 := hhh (HT2.out.trans t4)
   have HS4 := hhh hs
   clear i4 t4 hs
   go_wp2
   go_ret
   exact Fin.out _ HP.out _ _ ⟨_, hv, h4, rfl, HS4.out, HI4.out, HT4.out⟩
end
end Pip
end
section
open Go.RowKit
open Json (Part)
namespace Pip
section
variable {p : Pin} {b : Nat} {h : Own.Heap} {w : World}
theorem pinstep_any {n : Nat} (hi : p.Is b h) (hw : Own.Has w h) (hf : p.Fits n) (hn : n ≤ 1000000) (x : UInt8) :
  Calls Tryz.prog 145 #[.pointer (some ⟨b, 0, none⟩), .int .u8 (x.toNat : Int)] w (PinTells (p.step x) b h w) := by
 obtain ⟨c3, -, -, -, -⟩ := Core.Is.cell hi hw
 obtain ⟨c12, -⟩ := hi.cells_ hw
 have TR := hhh (Own.Turn.refl hw)
 have HI := hhh hi
 rcases Nat.eq_zero_or_pos p.c.e with h0 | h0
 ·have HP0 : p.step x = ((p.act x).1, (p.act x).2, (p.act x).1.c.e) := by unfold Pin.step; rw [if_neg (by omega)]
  have HA : p.act x = if 0 < p.c.lack then p.on (p.c.byte x) else if p.kind ≠ 0 then p.number x else p.item x := rfl
  have HL := hhh (clacks_any hi hw)
  have H1 := fun (hl : 0 < p.c.lack) => (cbyte_any hi hw hf.c hn hl x)
  have H2 := fun (hk : p.kind ≠ 0) => (pnumber_any hi hw hf hn h0 hk x)
  have H4 := hhh (pitem_any hi hw hf hn x)
  rw [h0] at c3
  generalize p.step x = S at HP0 ⊢
  have fin : ∀ A : Pin × List Part, p.act x = A → ∀ (v : Value) (hv h' : Own.Heap) (w' : World), Own.Slc 20 (partCells A.2) v hv → A.1.Is b h' → Own.Turn h (hv ++ h') w w' → PinTells S b h w (.returned (.tuple #[v, .int .i64 (A.1.c.e : Int)])) w' := by
   intro A hA v hv h' w' s i t
   rw [HP0, hA]
   exact ⟨v, hv, h', rfl, s, i, t⟩
  have Fin := hhh fin
  have HAh := hhh HA
  clear hi hw hf HP0 HA fin hn h0
  by_cases hl : 0 < p.c.lack
  ·have HP := hhh (HAh.out.trans (if_pos hl))
   have HC := hhh (H1 hl)
   have hld : decide (0 < p.c.lack) = true := by simpa using hl
   rw [hld] at HL
   clear hl hld H1 H2 H4 HAh
   go_enter Tryz.func145, Tryz.ntmps145
   go_wp2_with (fail)
   refine HL.out.mono ?_
   rintro e w2 ⟨rfl, rfl⟩
   go_wp2_with (fail)
   refine HC.out.mono ?_
   rintro e w4 ⟨v, hv, h4, rfl, hs, i4, t4⟩
   have HI4 := hhh i4
   have HT4 := hhh t4
   have HS4 := hhh hs
   obtain ⟨d3, -⟩ := Core.Is.cell i4 t4.has.right
   clear i4 t4 hs
   go_wp2
   go_quiet (fail)
   go_wp2
   go_ret2
   exact Fin.out _ HP.out _ _ _ _ HS4.out HI4.out (HT4.out.drewN _)
  ·have HPn := HAh.out.trans (if_neg hl)
   have hld : decide (0 < p.c.lack) = false := by simpa using hl
   rw [hld] at HL
   rcases Nat.eq_zero_or_pos p.kind with hk | hk
   ·have HP := hhh (HPn.trans (if_neg (by omega)))
    rw [hk] at c12
    clear hl hld H1 H2 HAh HPn hk
    go_enter Tryz.func145, Tryz.ntmps145
    go_wp2_with (fail)
    refine HL.out.mono ?_
    rintro e w2 ⟨rfl, rfl⟩
    go_wp2_with (fail)
    refine H4.out.mono ?_
    rintro e w4 ⟨v, hv, h4, rfl, hs, i4, t4⟩
    have HI4 := hhh i4
    have HT4 := hhh t4
    have HS4 := hhh hs
    obtain ⟨d3, -⟩ := Core.Is.cell i4 t4.has.right
    clear i4 t4 hs
    go_wp2
    go_quiet (fail)
    go_wp2
    go_ret2
    exact Fin.out _ HP.out _ _ _ _ HS4.out HI4.out (HT4.out.drewN _)
   ·have HP := hhh (HPn.trans (if_pos (by omega)))
    have H2k := hhh (H2 (by omega))
    have hkb : ((p.kind : Int) != 0) = true := by rw [bne_iff_ne]; omega
    clear hl hld H1 H2 H4 HAh HPn hk
    go_enter Tryz.func145, Tryz.ntmps145
    go_wp2_with (fail)
    refine HL.out.mono ?_
    rintro e w2 ⟨rfl, rfl⟩
    go_wp2_with (fail)
    refine H2k.out.mono ?_
    rintro e w4 ⟨v, hv, h4, rfl, hs, i4, t4⟩
    have HI4 := hhh i4
    have HT4 := hhh t4
    have HS4 := hhh hs
    obtain ⟨d3, -⟩ := Core.Is.cell i4 t4.has.right
    clear i4 t4 hs
    go_wp2
    go_quiet (fail)
    go_wp2
    go_ret2
    exact Fin.out _ HP.out _ _ _ _ HS4.out HI4.out (HT4.out.drewN _)
 ·have HP := hhh (show p.step x = (p, [], p.c.e) by unfold Pin.step; rw [if_pos (by omega)])
  have hne : ((p.c.e : Int) != 0) = true := by rw [bne_iff_ne]; omega
  clear hi hw hf hn h0
  go_enter Tryz.func145, Tryz.ntmps145
  go_wp2
  go_quiet (fail)
  go_wp2
  go_ret2
  rw [HP.out]
  exact ⟨_, [], h, rfl, .bare _ rfl, HI.out, TR.out.drewN _⟩
end
end Pip
end
section
open Go.RowKit
namespace Pip
theorem number_cv (e : Int) (w : World) : (convert 51 9 (.slice (some ⟨w.heap.size, 0, none⟩) 1 1)).run Tryz.prog (w.alloc (.cells #[.int .u8 (e % 256)] 5)) = .ok (.string ⟨([UInt8.ofNat (e % 256).toNat] : List UInt8).toArray⟩) (w.alloc (.cells #[.int .u8 (e % 256)] 5)) := by
 have h := hcv_new w w.heap.size rfl [UInt8.ofNat (e % 256).toNat] 1 rfl (by decide)
 have e1 : (u8s [UInt8.ofNat (e % 256).toNat]).toArray = #[.int .u8 (e % 256)] := by
  simp only [u8s, List.map_cons, List.map_nil, UInt8.toNat_ofNat']
  rw [show (((e % 256).toNat % 2 ^ 8 : Nat) : Int) = e % 256 by omega]
 rw [e1] at h
 exact h
theorem numb_any (e : Int) (w : World) : Calls Tryz.prog 57 #[.int .i64 e] w fun r w' => r = .returned (.string ⟨([UInt8.ofNat (e % 256).toNat] : List UInt8).toArray⟩) ∧ Below w.heap.size w w' := by
 have HB := hhh (fun o => (Below.refl w.heap.size w).alloc (Nat.le_refl _) o)
 have hcv := number_cv e w
 obtain ⟨S, hS⟩ : ∃ S : ByteArray, S = ⟨([UInt8.ofNat (e % 256).toNat] : List UInt8).toArray⟩ := ⟨_, rfl⟩
 rw [← hS] at hcv ⊢
 clear hS
 go_enter Tryz.func57, Tryz.ntmps57
 go_wp2
 go_ret
 exact ⟨rfl, HB.out _⟩
theorem cat_bytes0 (a b : List UInt8) : (⟨a.toArray⟩ : ByteArray) ++ ⟨b.toArray⟩ = ⟨(a ++ b).toArray⟩ := by
 apply ByteArray.ext
 simp
theorem cat_one (a : UInt8) (l : List UInt8) : (⟨#[a]⟩ : ByteArray) ++ ⟨l.toArray⟩ = ⟨(a :: l).toArray⟩ := cat_bytes0 [a] l
theorem no_any (e : Int) (w : World) : Calls Tryz.prog 43 #[.int .i64 e] w fun r w' => r = .returned (.string ⟨([78, UInt8.ofNat (e % 256).toNat] : List UInt8).toArray⟩) ∧ Below w.heap.size w w' := by
 have HN := hhh (numb_any e w)
 have HC := hhh (cat_one 78 [UInt8.ofNat (e % 256).toNat])
 obtain ⟨S, hS⟩ : ∃ S : ByteArray, S = ⟨([UInt8.ofNat (e % 256).toNat] : List UInt8).toArray⟩ := ⟨_, rfl⟩
 have hz : S.size = 1 := by rw [hS]; rfl
 rw [← hS] at HN HC
 clear hS
 go_enter Tryz.func43, Tryz.ntmps43
 go_wp2_with (fail)
 refine HN.out.mono ?_
 rintro r w1 ⟨rfl, b1⟩
 go_wp2
 go_ret
 exact ⟨by rw [← HC.out]; rfl, b1⟩
theorem trailer_any (e : Int) (w : World) : Calls Tryz.prog 42 #[.int .i64 e] w fun r w' => r = .returned (.string ⟨([255, UInt8.ofNat (e % 256).toNat] : List UInt8).toArray⟩) ∧ Below w.heap.size w w' := by
 have HN := hhh (numb_any e w)
 have HC := hhh (cat_one 255 [UInt8.ofNat (e % 256).toNat])
 obtain ⟨S, hS⟩ : ∃ S : ByteArray, S = ⟨([UInt8.ofNat (e % 256).toNat] : List UInt8).toArray⟩ := ⟨_, rfl⟩
 have hz : S.size = 1 := by rw [hS]; rfl
 rw [← hS] at HN HC
 clear hS
 go_enter Tryz.func42, Tryz.ntmps42
 go_wp2_with (fail)
 refine HN.out.mono ?_
 rintro r w1 ⟨rfl, b1⟩
 go_wp2
 go_ret
 exact ⟨by rw [← HC.out]; rfl, b1⟩
theorem yes_any (w : World) : Calls Tryz.prog 41 #[] w fun r w' => r = .returned (.string ⟨#[75]⟩) ∧ w = w' := by
 go_enter Tryz.func41, Tryz.ntmps41
 go_wp2
 go_ret
 exact ⟨rfl, rfl⟩
end Pip
end
end Go.Proofs.YtnnkkgglfajmhaaGreat
