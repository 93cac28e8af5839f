/- Texts of the walk, joined. -/
import Derived.Test.YthnbpnfaghjamaaGreatK23
import Derived.Test.YthnbpnfaghjamaaGreatK36
/- packin.Parser: the first byte of an item. (Written by wip/gen_pini.py.) -/
namespace Go.Proofs.YthnbpnfaghjamaaGreat
open Go.RowKit
open Json (Part)
namespace Pip
section
variable {p : Pin} {b : Nat} {h : Own.Heap} {w : World}
set_option maxRecDepth 100000 in
set_option maxHeartbeats 8000000 in
theorem pitem_203 {n : Nat} (hi : p.Is b h) (hw : Own.Has w h) (hf : p.Fits n) (hn : n ≤ 1000000) (x : UInt8) (hlo : 203 ≤ x.toNat) (hhi : x.toNat ≤ 203) :
  Calls Tryz.prog 149 #[.pointer (some ⟨b, 0, none⟩), .int .u8 (x.toNat : Int)] w (PinDoes (p.item x) b h w) := by
 obtain ⟨N, hN⟩ : ∃ N, N = x.toNat := ⟨_, rfl⟩
 have HP0 : p.item x = if p.c.done = true ∨ N = 193 then p.on (p.c.fail 2) else if p.c.atKey = true ∧ isText x = false then p.on (p.c.fail 8) else if (199 ≤ N ∧ N ≤ 201) ∨ (212 ≤ N ∧ N ≤ 216) then p.on (p.c.fail 8)
   else if N = 202 ∨ N = 203 then p.on (p.c.fail 6) else if isContainer x = true ∧ p.c.full = true then p.on (p.c.fail 4) else if N < 128 then p.on (p.c.value (.whole false N)) else if 224 ≤ N then p.on (p.c.value (.whole true (255 - N)))
   else if N < 160 then p.count (decide (N < 144)) (N % 16) else if N < 192 then p.on (p.c.length true (N % 32)) else if N = 192 then p.on (p.c.value .null) else if N ≤ 195 then p.on (p.c.value (.bool (decide (N = 195)))) else p.long x := by rw [hN]; rfl
 have HF := Lib.hid (fun (u : World) (t : Own.Turn h h w u) e => cfail_any hi t.has e)
 have HF0 := Lib.hid (fun e => cfail_any hi hw e)
 have HD := Lib.hid (cdone_any hi hw)
 have HA := Lib.hid (catkey_any hi hw hf.c)
 have HFu := Lib.hid (fun (u : World) (t : Own.Turn h h w u) => cfull_any hi t.has)
 have HV := Lib.hid (fun (u : World) (t : Own.Turn h h w u) v => cvalue_any hi t.has hf.c hn v)
 have HLe := Lib.hid (fun (u : World) (t : Own.Turn h h w u) m => clength_any hi t.has hf.c hn true m)
 have HCo := Lib.hid (fun (u : World) (t : Own.Turn h h w u) pr m => pcount_any hi t.has hf.c hn pr m)
 have HLo := Lib.hid (fun (u : World) (t : Own.Turn h h w u) g1 g2 g3 g4 => plong_any hi t.has x g1 g2 g3 g4)
 have HX0 := fun u => ptext_any x u
 have HK := Lib.hid (fun u => pcontainer_any x u)
 have HXd : isText x = false := by unfold isText; simp; omega
 have HKd : isContainer x = ((decide (128 ≤ N) && decide (N ≤ 159)) || (decide (220 ≤ N) && decide (N ≤ 223))) := by rw [hN]; rfl
 rw [HXd] at HX0 HP0
 have HX := Lib.hid HX0
 have HKh := Lib.hid HKd
 have hltI : (N : Int) < 256 := by omega
 have HNl := Lib.hid (show N < 256 by omega)
 have eA : bits .and .u8 (N : Int) 15 = (N : Int) % 16 := bits_mask .u8 8 (by decide) wraps_u8 4 (by decide) (N : Int) (by omega) (by omega)
 have eB : bits .and .u8 (N : Int) 31 = (N : Int) % 32 := bits_mask .u8 8 (by decide) wraps_u8 5 (by decide) (N : Int) (by omega) (by omega)
 obtain ⟨D, hD⟩ : ∃ D, D = 255 - N := ⟨_, rfl⟩
 have eX : bits .xor .u8 IntKind.u8.max (N : Int) = (D : Int) := by
  have := u8_not ⟨N, by omega⟩
  simp only at this
  show bits .xor .u8 255 (N : Int) = (D : Int)
  rw [this]
  omega
 have eW : IntKind.u64.wrap (D : Int) = (D : Int) := by rw [IntKind.wrap_u64]; omega
 rw [← hD] at HP0
 have HDl := Lib.hid (show D < 256 by omega)
 clear hD
 have HPh := Lib.hid HP0
 have HNb := Lib.hid (show 203 ≤ N ∧ N ≤ 203 by omega)
 rw [← hN]
 rw [← hN] at HX HK HLo
 generalize p.item x = O at HPh ⊢
 generalize isContainer x = K at HKh HPh HK
 clear hi hw hf HP0 hN hn HXd HKd hlo hhi HX0
 clear eA eB eX eW hltI HNl
 obtain rfl : N = 203 := by have := HNb.out; omega
 simp only [Int.cast_ofNat_Int] at HX HK HLo ⊢
 go_enter Tryz.func149, Tryz.ntmps149
 go_wp2_with (fail)
 refine HD.out.mono ?_
 rintro e w1 ⟨rfl, rfl⟩
 cases hd : p.c.done
 case true =>
  have HP := Lib.hid (HPh.out.trans (if_pos (.inl hd)))
  clear HPh hd
  go_wp2_with (fail)
  refine (HF0.out 2).mono ?_
  rintro e w4 ⟨v, hv, h4, rfl, hs, i4, t4⟩
  have HI4 := Lib.hid i4
  have HT4 := Lib.hid t4
  have HS4 := Lib.hid hs
  clear i4 t4 hs
  go_wp2
  go_ret
  rw [HP.out]
  exact ⟨_, hv, h4, rfl, HS4.out, HI4.out, HT4.out⟩
 case false =>
  have HPd := Lib.hid (HPh.out.trans (if_neg (by rw [hd]; first | (simp; done) | (have := HNb.out; simp; omega))))
  clear HPh hd
  go_wp2_with (fail)
  refine HA.out.mono ?_
  rintro e w2 ⟨rfl, t2⟩
  have T2 := Lib.hid t2
  clear t2
  cases hk : p.c.atKey
  ·have HPk := Lib.hid (HPd.out.trans (if_neg (by rw [hk]; simp)))
   clear HPd hk HX
   have HPl := Lib.hid (HPk.out.trans (if_neg (by first | (have := HNb.out; omega) | trivial | (simp; done))))
   clear HPk
   have HP := Lib.hid (HPl.out.trans (if_pos (by first | (have := HNb.out; omega) | trivial | (simp; done))))
   clear HPl HNb
   go_wp2_with (fail)
   refine (HF.out _ T2.out 6).mono ?_
   rintro e w4 ⟨v, hv, h4, rfl, hs, i4, t4⟩
   have HI4 := Lib.hid i4
   have HT4 := Lib.hid t4
   have HS4 := Lib.hid hs
   clear i4 t4 hs
   go_wp2
   go_ret
   rw [HP.out]
   exact ⟨_, hv, h4, rfl, HS4.out, HI4.out, T2.out.trans HT4.out⟩
  ·go_wp2_with (fail)
   refine (HX.out _).mono ?_
   rintro e w3 ⟨rfl, rfl⟩
   have HP := Lib.hid (HPd.out.trans (if_pos (by rw [hk]; simp)))
   clear HPd hk HX
   go_wp2_with (fail)
   refine (HF.out _ T2.out 8).mono ?_
   rintro e w4 ⟨v, hv, h4, rfl, hs, i4, t4⟩
   have HI4 := Lib.hid i4
   have HT4 := Lib.hid t4
   have HS4 := Lib.hid hs
   clear i4 t4 hs
   go_wp2
   go_ret
   rw [HP.out]
   exact ⟨_, hv, h4, rfl, HS4.out, HI4.out, T2.out.trans HT4.out⟩
set_option maxRecDepth 100000 in
set_option maxHeartbeats 8000000 in
theorem pitem_204 {n : Nat} (hi : p.Is b h) (hw : Own.Has w h) (hf : p.Fits n) (hn : n ≤ 1000000) (x : UInt8) (hlo : 204 ≤ x.toNat) (hhi : x.toNat ≤ 211) :
  Calls Tryz.prog 149 #[.pointer (some ⟨b, 0, none⟩), .int .u8 (x.toNat : Int)] w (PinDoes (p.item x) b h w) := by
 obtain ⟨N, hN⟩ : ∃ N, N = x.toNat := ⟨_, rfl⟩
 have HP0 : p.item x = if p.c.done = true ∨ N = 193 then p.on (p.c.fail 2) else if p.c.atKey = true ∧ isText x = false then p.on (p.c.fail 8) else if (199 ≤ N ∧ N ≤ 201) ∨ (212 ≤ N ∧ N ≤ 216) then p.on (p.c.fail 8)
   else if N = 202 ∨ N = 203 then p.on (p.c.fail 6) else if isContainer x = true ∧ p.c.full = true then p.on (p.c.fail 4) else if N < 128 then p.on (p.c.value (.whole false N)) else if 224 ≤ N then p.on (p.c.value (.whole true (255 - N)))
   else if N < 160 then p.count (decide (N < 144)) (N % 16) else if N < 192 then p.on (p.c.length true (N % 32)) else if N = 192 then p.on (p.c.value .null) else if N ≤ 195 then p.on (p.c.value (.bool (decide (N = 195)))) else p.long x := by rw [hN]; rfl
 have HF := Lib.hid (fun (u : World) (t : Own.Turn h h w u) e => cfail_any hi t.has e)
 have HF0 := Lib.hid (fun e => cfail_any hi hw e)
 have HD := Lib.hid (cdone_any hi hw)
 have HA := Lib.hid (catkey_any hi hw hf.c)
 have HFu := Lib.hid (fun (u : World) (t : Own.Turn h h w u) => cfull_any hi t.has)
 have HV := Lib.hid (fun (u : World) (t : Own.Turn h h w u) v => cvalue_any hi t.has hf.c hn v)
 have HLe := Lib.hid (fun (u : World) (t : Own.Turn h h w u) m => clength_any hi t.has hf.c hn true m)
 have HCo := Lib.hid (fun (u : World) (t : Own.Turn h h w u) pr m => pcount_any hi t.has hf.c hn pr m)
 have HLo := Lib.hid (fun (u : World) (t : Own.Turn h h w u) g1 g2 g3 g4 => plong_any hi t.has x g1 g2 g3 g4)
 have HX0 := fun u => ptext_any x u
 have HK := Lib.hid (fun u => pcontainer_any x u)
 have HXd : isText x = false := by unfold isText; simp; omega
 have HKd : isContainer x = ((decide (128 ≤ N) && decide (N ≤ 159)) || (decide (220 ≤ N) && decide (N ≤ 223))) := by rw [hN]; rfl
 rw [HXd] at HX0 HP0
 have HX := Lib.hid HX0
 have HKh := Lib.hid HKd
 have hltI : (N : Int) < 256 := by omega
 have HNl := Lib.hid (show N < 256 by omega)
 have eA : bits .and .u8 (N : Int) 15 = (N : Int) % 16 := bits_mask .u8 8 (by decide) wraps_u8 4 (by decide) (N : Int) (by omega) (by omega)
 have eB : bits .and .u8 (N : Int) 31 = (N : Int) % 32 := bits_mask .u8 8 (by decide) wraps_u8 5 (by decide) (N : Int) (by omega) (by omega)
 obtain ⟨D, hD⟩ : ∃ D, D = 255 - N := ⟨_, rfl⟩
 have eX : bits .xor .u8 IntKind.u8.max (N : Int) = (D : Int) := by
  have := u8_not ⟨N, by omega⟩
  simp only at this
  show bits .xor .u8 255 (N : Int) = (D : Int)
  rw [this]
  omega
 have eW : IntKind.u64.wrap (D : Int) = (D : Int) := by rw [IntKind.wrap_u64]; omega
 rw [← hD] at HP0
 have HDl := Lib.hid (show D < 256 by omega)
 clear hD
 have HPh := Lib.hid HP0
 have HNb := Lib.hid (show 204 ≤ N ∧ N ≤ 211 by omega)
 rw [← hN]
 rw [← hN] at HX HK HLo
 generalize p.item x = O at HPh ⊢
 generalize isContainer x = K at HKh HPh HK
 clear hi hw hf HP0 hN hn HXd HKd hlo hhi HX0
 have q0 : ((N : Int) == 193) = false := by rw [beq_eq_false_iff_ne]; have := HNb.out; omega
 go_enter Tryz.func149, Tryz.ntmps149
 go_wp2_with (fail)
 refine HD.out.mono ?_
 rintro e w1 ⟨rfl, rfl⟩
 cases hd : p.c.done
 case true =>
  have HP := Lib.hid (HPh.out.trans (if_pos (.inl hd)))
  clear HPh hd
  go_wp2_with (fail)
  refine (HF0.out 2).mono ?_
  rintro e w4 ⟨v, hv, h4, rfl, hs, i4, t4⟩
  have HI4 := Lib.hid i4
  have HT4 := Lib.hid t4
  have HS4 := Lib.hid hs
  clear i4 t4 hs
  go_wp2
  go_ret
  rw [HP.out]
  exact ⟨_, hv, h4, rfl, HS4.out, HI4.out, HT4.out⟩
 case false =>
  have HPd := Lib.hid (HPh.out.trans (if_neg (by rw [hd]; first | (simp; done) | (have := HNb.out; simp; omega))))
  clear HPh hd
  go_wp2_with (fail)
  refine HA.out.mono ?_
  rintro e w2 ⟨rfl, t2⟩
  have T2 := Lib.hid t2
  clear t2
  cases hk : p.c.atKey
  ·have HPk := Lib.hid (HPd.out.trans (if_neg (by rw [hk]; simp)))
   clear HPd hk HX
   have a1 : (199 : Int) ≤ (N : Int) := by have := HNb.out; omega
   have a2 : ¬ (N : Int) ≤ 201 := by have := HNb.out; omega
   have a3 : ¬ (212 : Int) ≤ (N : Int) := by have := HNb.out; omega
   have a5 : ((N : Int) == 202) = false := by rw [beq_eq_false_iff_ne]; have := HNb.out; omega
   have a6 : ((N : Int) == 203) = false := by rw [beq_eq_false_iff_ne]; have := HNb.out; omega
   have a7 : ¬ (N : Int) < 128 := by have := HNb.out; omega
   have a8 : ¬ (224 : Int) ≤ (N : Int) := by have := HNb.out; omega
   have a9 : ¬ (N : Int) < 160 := by have := HNb.out; omega
   have b2 : ¬ (N : Int) < 192 := by have := HNb.out; omega
   have b3 : ((N : Int) == 192) = false := by rw [beq_eq_false_iff_ne]; have := HNb.out; omega
   have b4 : ¬ (N : Int) ≤ 195 := by have := HNb.out; omega
   have b5 : ((N : Int) == 195) = false := by rw [beq_eq_false_iff_ne]; have := HNb.out; omega
   have HPl := Lib.hid (HPk.out.trans (if_neg (by first | (have := HNb.out; omega) | trivial | (simp; done))))
   clear HPk
   have HPm := Lib.hid (HPl.out.trans (if_neg (by first | (have := HNb.out; omega) | trivial | (simp; done))))
   clear HPl
   have hK : K = false := by rw [HKh.out]; have := HNb.out; first | (simp; done) | (simp; omega)
   rw [hK] at HK HPm
   clear hK HKh
   go_wp2_with (fail)
   refine (HK.out _).mono ?_
   rintro e w3 ⟨rfl, rfl⟩
   have HPn := Lib.hid (HPm.out.trans (if_neg (by simp)))
   clear HPm
   have HC2 := Lib.hid (HLo.out _ T2.out (by first | (have := HNb.out; omega) | trivial | (simp; done)) (by first | (have := HNb.out; omega) | trivial | (simp; done)) (by first | (have := HNb.out; omega) | trivial | (simp; done)) (by first | (have := HNb.out; omega) | trivial | (simp; done)))
   have HP := Lib.hid ((((((HPn.out.trans (if_neg (by first | (have := HNb.out; omega) | trivial | (simp; done)))).trans (if_neg (by first | (have := HNb.out; omega) | trivial | (simp; done)))).trans (if_neg (by first | (have := HNb.out; omega) | trivial | (simp; done)))).trans (if_neg (by first | (have := HNb.out; omega) | trivial | (simp; done)))).trans (if_neg (by first | (have := HNb.out; omega) | trivial | (simp; done)))).trans (if_neg (by first | (have := HNb.out; omega) | trivial | (simp; done))))
   clear HPn HNb
   go_wp2_with (fail)
   refine (HC2.out).mono ?_
   rintro e w4 ⟨v, hv, h4, rfl, hs, i4, t4⟩
   have HI4 := Lib.hid i4
   have HT4 := Lib.hid t4
   have HS4 := Lib.hid hs
   clear i4 t4 hs
   go_wp2
   go_ret
   rw [HP.out]
   exact ⟨_, hv, h4, rfl, HS4.out, HI4.out, T2.out.trans HT4.out⟩
  ·go_wp2_with (fail)
   refine (HX.out _).mono ?_
   rintro e w3 ⟨rfl, rfl⟩
   have HP := Lib.hid (HPd.out.trans (if_pos (by rw [hk]; simp)))
   clear HPd hk HX
   go_wp2_with (fail)
   refine (HF.out _ T2.out 8).mono ?_
   rintro e w4 ⟨v, hv, h4, rfl, hs, i4, t4⟩
   have HI4 := Lib.hid i4
   have HT4 := Lib.hid t4
   have HS4 := Lib.hid hs
   clear i4 t4 hs
   go_wp2
   go_ret
   rw [HP.out]
   exact ⟨_, hv, h4, rfl, HS4.out, HI4.out, T2.out.trans HT4.out⟩
set_option maxRecDepth 100000 in
set_option maxHeartbeats 8000000 in
theorem pitem_212 {n : Nat} (hi : p.Is b h) (hw : Own.Has w h) (hf : p.Fits n) (hn : n ≤ 1000000) (x : UInt8) (hlo : 212 ≤ x.toNat) (hhi : x.toNat ≤ 216) :
  Calls Tryz.prog 149 #[.pointer (some ⟨b, 0, none⟩), .int .u8 (x.toNat : Int)] w (PinDoes (p.item x) b h w) := by
 obtain ⟨N, hN⟩ : ∃ N, N = x.toNat := ⟨_, rfl⟩
 have HP0 : p.item x = if p.c.done = true ∨ N = 193 then p.on (p.c.fail 2) else if p.c.atKey = true ∧ isText x = false then p.on (p.c.fail 8) else if (199 ≤ N ∧ N ≤ 201) ∨ (212 ≤ N ∧ N ≤ 216) then p.on (p.c.fail 8)
   else if N = 202 ∨ N = 203 then p.on (p.c.fail 6) else if isContainer x = true ∧ p.c.full = true then p.on (p.c.fail 4) else if N < 128 then p.on (p.c.value (.whole false N)) else if 224 ≤ N then p.on (p.c.value (.whole true (255 - N)))
   else if N < 160 then p.count (decide (N < 144)) (N % 16) else if N < 192 then p.on (p.c.length true (N % 32)) else if N = 192 then p.on (p.c.value .null) else if N ≤ 195 then p.on (p.c.value (.bool (decide (N = 195)))) else p.long x := by rw [hN]; rfl
 have HF := Lib.hid (fun (u : World) (t : Own.Turn h h w u) e => cfail_any hi t.has e)
 have HF0 := Lib.hid (fun e => cfail_any hi hw e)
 have HD := Lib.hid (cdone_any hi hw)
 have HA := Lib.hid (catkey_any hi hw hf.c)
 have HFu := Lib.hid (fun (u : World) (t : Own.Turn h h w u) => cfull_any hi t.has)
 have HV := Lib.hid (fun (u : World) (t : Own.Turn h h w u) v => cvalue_any hi t.has hf.c hn v)
 have HLe := Lib.hid (fun (u : World) (t : Own.Turn h h w u) m => clength_any hi t.has hf.c hn true m)
 have HCo := Lib.hid (fun (u : World) (t : Own.Turn h h w u) pr m => pcount_any hi t.has hf.c hn pr m)
 have HLo := Lib.hid (fun (u : World) (t : Own.Turn h h w u) g1 g2 g3 g4 => plong_any hi t.has x g1 g2 g3 g4)
 have HX0 := fun u => ptext_any x u
 have HK := Lib.hid (fun u => pcontainer_any x u)
 have HXd : isText x = false := by unfold isText; simp; omega
 have HKd : isContainer x = ((decide (128 ≤ N) && decide (N ≤ 159)) || (decide (220 ≤ N) && decide (N ≤ 223))) := by rw [hN]; rfl
 rw [HXd] at HX0 HP0
 have HX := Lib.hid HX0
 have HKh := Lib.hid HKd
 have hltI : (N : Int) < 256 := by omega
 have HNl := Lib.hid (show N < 256 by omega)
 have eA : bits .and .u8 (N : Int) 15 = (N : Int) % 16 := bits_mask .u8 8 (by decide) wraps_u8 4 (by decide) (N : Int) (by omega) (by omega)
 have eB : bits .and .u8 (N : Int) 31 = (N : Int) % 32 := bits_mask .u8 8 (by decide) wraps_u8 5 (by decide) (N : Int) (by omega) (by omega)
 obtain ⟨D, hD⟩ : ∃ D, D = 255 - N := ⟨_, rfl⟩
 have eX : bits .xor .u8 IntKind.u8.max (N : Int) = (D : Int) := by
  have := u8_not ⟨N, by omega⟩
  simp only at this
  show bits .xor .u8 255 (N : Int) = (D : Int)
  rw [this]
  omega
 have eW : IntKind.u64.wrap (D : Int) = (D : Int) := by rw [IntKind.wrap_u64]; omega
 rw [← hD] at HP0
 have HDl := Lib.hid (show D < 256 by omega)
 clear hD
 have HPh := Lib.hid HP0
 have HNb := Lib.hid (show 212 ≤ N ∧ N ≤ 216 by omega)
 rw [← hN]
 rw [← hN] at HX HK HLo
 generalize p.item x = O at HPh ⊢
 generalize isContainer x = K at HKh HPh HK
 clear hi hw hf HP0 hN hn HXd HKd hlo hhi HX0
 have q0 : ((N : Int) == 193) = false := by rw [beq_eq_false_iff_ne]; have := HNb.out; omega
 go_enter Tryz.func149, Tryz.ntmps149
 go_wp2_with (fail)
 refine HD.out.mono ?_
 rintro e w1 ⟨rfl, rfl⟩
 cases hd : p.c.done
 case true =>
  have HP := Lib.hid (HPh.out.trans (if_pos (.inl hd)))
  clear HPh hd
  go_wp2_with (fail)
  refine (HF0.out 2).mono ?_
  rintro e w4 ⟨v, hv, h4, rfl, hs, i4, t4⟩
  have HI4 := Lib.hid i4
  have HT4 := Lib.hid t4
  have HS4 := Lib.hid hs
  clear i4 t4 hs
  go_wp2
  go_ret
  rw [HP.out]
  exact ⟨_, hv, h4, rfl, HS4.out, HI4.out, HT4.out⟩
 case false =>
  have HPd := Lib.hid (HPh.out.trans (if_neg (by rw [hd]; first | (simp; done) | (have := HNb.out; simp; omega))))
  clear HPh hd
  go_wp2_with (fail)
  refine HA.out.mono ?_
  rintro e w2 ⟨rfl, t2⟩
  have T2 := Lib.hid t2
  clear t2
  cases hk : p.c.atKey
  ·have HPk := Lib.hid (HPd.out.trans (if_neg (by rw [hk]; simp)))
   clear HPd hk HX
   have a1 : (199 : Int) ≤ (N : Int) := by have := HNb.out; omega
   have a2 : ¬ (N : Int) ≤ 201 := by have := HNb.out; omega
   have a3 : (212 : Int) ≤ (N : Int) := by have := HNb.out; omega
   have a4 : (N : Int) ≤ 216 := by have := HNb.out; omega
   have HP := Lib.hid (HPk.out.trans (if_pos (by first | (have := HNb.out; omega) | trivial | (simp; done))))
   clear HPk HNb
   go_wp2_with (fail)
   refine (HF.out _ T2.out 8).mono ?_
   rintro e w4 ⟨v, hv, h4, rfl, hs, i4, t4⟩
   have HI4 := Lib.hid i4
   have HT4 := Lib.hid t4
   have HS4 := Lib.hid hs
   clear i4 t4 hs
   go_wp2
   go_ret
   rw [HP.out]
   exact ⟨_, hv, h4, rfl, HS4.out, HI4.out, T2.out.trans HT4.out⟩
  ·go_wp2_with (fail)
   refine (HX.out _).mono ?_
   rintro e w3 ⟨rfl, rfl⟩
   have HP := Lib.hid (HPd.out.trans (if_pos (by rw [hk]; simp)))
   clear HPd hk HX
   go_wp2_with (fail)
   refine (HF.out _ T2.out 8).mono ?_
   rintro e w4 ⟨v, hv, h4, rfl, hs, i4, t4⟩
   have HI4 := Lib.hid i4
   have HT4 := Lib.hid t4
   have HS4 := Lib.hid hs
   clear i4 t4 hs
   go_wp2
   go_ret
   rw [HP.out]
   exact ⟨_, hv, h4, rfl, HS4.out, HI4.out, T2.out.trans HT4.out⟩
set_option maxRecDepth 100000 in
set_option maxHeartbeats 8000000 in
theorem pitem_217 {n : Nat} (hi : p.Is b h) (hw : Own.Has w h) (hf : p.Fits n) (hn : n ≤ 1000000) (x : UInt8) (hlo : 217 ≤ x.toNat) (hhi : x.toNat ≤ 219) :
  Calls Tryz.prog 149 #[.pointer (some ⟨b, 0, none⟩), .int .u8 (x.toNat : Int)] w (PinDoes (p.item x) b h w) := by
 obtain ⟨N, hN⟩ : ∃ N, N = x.toNat := ⟨_, rfl⟩
 have HP0 : p.item x = if p.c.done = true ∨ N = 193 then p.on (p.c.fail 2) else if p.c.atKey = true ∧ isText x = false then p.on (p.c.fail 8) else if (199 ≤ N ∧ N ≤ 201) ∨ (212 ≤ N ∧ N ≤ 216) then p.on (p.c.fail 8)
   else if N = 202 ∨ N = 203 then p.on (p.c.fail 6) else if isContainer x = true ∧ p.c.full = true then p.on (p.c.fail 4) else if N < 128 then p.on (p.c.value (.whole false N)) else if 224 ≤ N then p.on (p.c.value (.whole true (255 - N)))
   else if N < 160 then p.count (decide (N < 144)) (N % 16) else if N < 192 then p.on (p.c.length true (N % 32)) else if N = 192 then p.on (p.c.value .null) else if N ≤ 195 then p.on (p.c.value (.bool (decide (N = 195)))) else p.long x := by rw [hN]; rfl
 have HF := Lib.hid (fun (u : World) (t : Own.Turn h h w u) e => cfail_any hi t.has e)
 have HF0 := Lib.hid (fun e => cfail_any hi hw e)
 have HD := Lib.hid (cdone_any hi hw)
 have HA := Lib.hid (catkey_any hi hw hf.c)
 have HFu := Lib.hid (fun (u : World) (t : Own.Turn h h w u) => cfull_any hi t.has)
 have HV := Lib.hid (fun (u : World) (t : Own.Turn h h w u) v => cvalue_any hi t.has hf.c hn v)
 have HLe := Lib.hid (fun (u : World) (t : Own.Turn h h w u) m => clength_any hi t.has hf.c hn true m)
 have HCo := Lib.hid (fun (u : World) (t : Own.Turn h h w u) pr m => pcount_any hi t.has hf.c hn pr m)
 have HLo := Lib.hid (fun (u : World) (t : Own.Turn h h w u) g1 g2 g3 g4 => plong_any hi t.has x g1 g2 g3 g4)
 have HX0 := fun u => ptext_any x u
 have HK := Lib.hid (fun u => pcontainer_any x u)
 have HXd : isText x = true := by unfold isText; simp; omega
 have HKd : isContainer x = ((decide (128 ≤ N) && decide (N ≤ 159)) || (decide (220 ≤ N) && decide (N ≤ 223))) := by rw [hN]; rfl
 rw [HXd] at HX0 HP0
 have HX := Lib.hid HX0
 have HKh := Lib.hid HKd
 have hltI : (N : Int) < 256 := by omega
 have HNl := Lib.hid (show N < 256 by omega)
 have eA : bits .and .u8 (N : Int) 15 = (N : Int) % 16 := bits_mask .u8 8 (by decide) wraps_u8 4 (by decide) (N : Int) (by omega) (by omega)
 have eB : bits .and .u8 (N : Int) 31 = (N : Int) % 32 := bits_mask .u8 8 (by decide) wraps_u8 5 (by decide) (N : Int) (by omega) (by omega)
 obtain ⟨D, hD⟩ : ∃ D, D = 255 - N := ⟨_, rfl⟩
 have eX : bits .xor .u8 IntKind.u8.max (N : Int) = (D : Int) := by
  have := u8_not ⟨N, by omega⟩
  simp only at this
  show bits .xor .u8 255 (N : Int) = (D : Int)
  rw [this]
  omega
 have eW : IntKind.u64.wrap (D : Int) = (D : Int) := by rw [IntKind.wrap_u64]; omega
 rw [← hD] at HP0
 have HDl := Lib.hid (show D < 256 by omega)
 clear hD
 have HPh := Lib.hid HP0
 have HNb := Lib.hid (show 217 ≤ N ∧ N ≤ 219 by omega)
 rw [← hN]
 rw [← hN] at HX HK HLo
 generalize p.item x = O at HPh ⊢
 generalize isContainer x = K at HKh HPh HK
 clear hi hw hf HP0 hN hn HXd HKd hlo hhi HX0
 have q0 : ((N : Int) == 193) = false := by rw [beq_eq_false_iff_ne]; have := HNb.out; omega
 go_enter Tryz.func149, Tryz.ntmps149
 go_wp2_with (fail)
 refine HD.out.mono ?_
 rintro e w1 ⟨rfl, rfl⟩
 cases hd : p.c.done
 case true =>
  have HP := Lib.hid (HPh.out.trans (if_pos (.inl hd)))
  clear HPh hd
  go_wp2_with (fail)
  refine (HF0.out 2).mono ?_
  rintro e w4 ⟨v, hv, h4, rfl, hs, i4, t4⟩
  have HI4 := Lib.hid i4
  have HT4 := Lib.hid t4
  have HS4 := Lib.hid hs
  clear i4 t4 hs
  go_wp2
  go_ret
  rw [HP.out]
  exact ⟨_, hv, h4, rfl, HS4.out, HI4.out, HT4.out⟩
 case false =>
  have HPd := Lib.hid (HPh.out.trans (if_neg (by rw [hd]; first | (simp; done) | (have := HNb.out; simp; omega))))
  clear HPh hd
  go_wp2_with (fail)
  refine HA.out.mono ?_
  rintro e w2 ⟨rfl, t2⟩
  have T2 := Lib.hid t2
  clear t2
  cases hk : p.c.atKey
  ·have HPk := Lib.hid (HPd.out.trans (if_neg (by rw [hk]; simp)))
   clear HPd hk HX
   have a1 : (199 : Int) ≤ (N : Int) := by have := HNb.out; omega
   have a2 : ¬ (N : Int) ≤ 201 := by have := HNb.out; omega
   have a3 : (212 : Int) ≤ (N : Int) := by have := HNb.out; omega
   have a4 : ¬ (N : Int) ≤ 216 := by have := HNb.out; omega
   have a5 : ((N : Int) == 202) = false := by rw [beq_eq_false_iff_ne]; have := HNb.out; omega
   have a6 : ((N : Int) == 203) = false := by rw [beq_eq_false_iff_ne]; have := HNb.out; omega
   have a7 : ¬ (N : Int) < 128 := by have := HNb.out; omega
   have a8 : ¬ (224 : Int) ≤ (N : Int) := by have := HNb.out; omega
   have a9 : ¬ (N : Int) < 160 := by have := HNb.out; omega
   have b2 : ¬ (N : Int) < 192 := by have := HNb.out; omega
   have b3 : ((N : Int) == 192) = false := by rw [beq_eq_false_iff_ne]; have := HNb.out; omega
   have b4 : ¬ (N : Int) ≤ 195 := by have := HNb.out; omega
   have b5 : ((N : Int) == 195) = false := by rw [beq_eq_false_iff_ne]; have := HNb.out; omega
   have HPl := Lib.hid (HPk.out.trans (if_neg (by first | (have := HNb.out; omega) | trivial | (simp; done))))
   clear HPk
   have HPm := Lib.hid (HPl.out.trans (if_neg (by first | (have := HNb.out; omega) | trivial | (simp; done))))
   clear HPl
   have hK : K = false := by rw [HKh.out]; have := HNb.out; first | (simp; done) | (simp; omega)
   rw [hK] at HK HPm
   clear hK HKh
   go_wp2_with (fail)
   refine (HK.out _).mono ?_
   rintro e w3 ⟨rfl, rfl⟩
   have HPn := Lib.hid (HPm.out.trans (if_neg (by simp)))
   clear HPm
   have HC2 := Lib.hid (HLo.out _ T2.out (by first | (have := HNb.out; omega) | trivial | (simp; done)) (by first | (have := HNb.out; omega) | trivial | (simp; done)) (by first | (have := HNb.out; omega) | trivial | (simp; done)) (by first | (have := HNb.out; omega) | trivial | (simp; done)))
   have HP := Lib.hid ((((((HPn.out.trans (if_neg (by first | (have := HNb.out; omega) | trivial | (simp; done)))).trans (if_neg (by first | (have := HNb.out; omega) | trivial | (simp; done)))).trans (if_neg (by first | (have := HNb.out; omega) | trivial | (simp; done)))).trans (if_neg (by first | (have := HNb.out; omega) | trivial | (simp; done)))).trans (if_neg (by first | (have := HNb.out; omega) | trivial | (simp; done)))).trans (if_neg (by first | (have := HNb.out; omega) | trivial | (simp; done))))
   clear HPn HNb
   go_wp2_with (fail)
   refine (HC2.out).mono ?_
   rintro e w4 ⟨v, hv, h4, rfl, hs, i4, t4⟩
   have HI4 := Lib.hid i4
   have HT4 := Lib.hid t4
   have HS4 := Lib.hid hs
   clear i4 t4 hs
   go_wp2
   go_ret
   rw [HP.out]
   exact ⟨_, hv, h4, rfl, HS4.out, HI4.out, T2.out.trans HT4.out⟩
  ·go_wp2_with (fail)
   refine (HX.out _).mono ?_
   rintro e w3 ⟨rfl, rfl⟩
   have HPk := Lib.hid (HPd.out.trans (if_neg (by simp)))
   clear HPd hk HX
   have a1 : (199 : Int) ≤ (N : Int) := by have := HNb.out; omega
   have a2 : ¬ (N : Int) ≤ 201 := by have := HNb.out; omega
   have a3 : (212 : Int) ≤ (N : Int) := by have := HNb.out; omega
   have a4 : ¬ (N : Int) ≤ 216 := by have := HNb.out; omega
   have a5 : ((N : Int) == 202) = false := by rw [beq_eq_false_iff_ne]; have := HNb.out; omega
   have a6 : ((N : Int) == 203) = false := by rw [beq_eq_false_iff_ne]; have := HNb.out; omega
   have a7 : ¬ (N : Int) < 128 := by have := HNb.out; omega
   have a8 : ¬ (224 : Int) ≤ (N : Int) := by have := HNb.out; omega
   have a9 : ¬ (N : Int) < 160 := by have := HNb.out; omega
   have b2 : ¬ (N : Int) < 192 := by have := HNb.out; omega
   have b3 : ((N : Int) == 192) = false := by rw [beq_eq_false_iff_ne]; have := HNb.out; omega
   have b4 : ¬ (N : Int) ≤ 195 := by have := HNb.out; omega
   have b5 : ((N : Int) == 195) = false := by rw [beq_eq_false_iff_ne]; have := HNb.out; omega
   have HPl := Lib.hid (HPk.out.trans (if_neg (by first | (have := HNb.out; omega) | trivial | (simp; done))))
   clear HPk
   have HPm := Lib.hid (HPl.out.trans (if_neg (by first | (have := HNb.out; omega) | trivial | (simp; done))))
   clear HPl
   have hK : K = false := by rw [HKh.out]; have := HNb.out; first | (simp; done) | (simp; omega)
   rw [hK] at HK HPm
   clear hK HKh
   go_wp2_with (fail)
   refine (HK.out _).mono ?_
   rintro e w3 ⟨rfl, rfl⟩
   have HPn := Lib.hid (HPm.out.trans (if_neg (by simp)))
   clear HPm
   have HC2 := Lib.hid (HLo.out _ T2.out (by first | (have := HNb.out; omega) | trivial | (simp; done)) (by first | (have := HNb.out; omega) | trivial | (simp; done)) (by first | (have := HNb.out; omega) | trivial | (simp; done)) (by first | (have := HNb.out; omega) | trivial | (simp; done)))
   have HP := Lib.hid ((((((HPn.out.trans (if_neg (by first | (have := HNb.out; omega) | trivial | (simp; done)))).trans (if_neg (by first | (have := HNb.out; omega) | trivial | (simp; done)))).trans (if_neg (by first | (have := HNb.out; omega) | trivial | (simp; done)))).trans (if_neg (by first | (have := HNb.out; omega) | trivial | (simp; done)))).trans (if_neg (by first | (have := HNb.out; omega) | trivial | (simp; done)))).trans (if_neg (by first | (have := HNb.out; omega) | trivial | (simp; done))))
   clear HPn HNb
   go_wp2_with (fail)
   refine (HC2.out).mono ?_
   rintro e w4 ⟨v, hv, h4, rfl, hs, i4, t4⟩
   have HI4 := Lib.hid i4
   have HT4 := Lib.hid t4
   have HS4 := Lib.hid hs
   clear i4 t4 hs
   go_wp2
   go_ret
   rw [HP.out]
   exact ⟨_, hv, h4, rfl, HS4.out, HI4.out, T2.out.trans HT4.out⟩
set_option maxRecDepth 100000 in
set_option maxHeartbeats 8000000 in
theorem pitem_220 {n : Nat} (hi : p.Is b h) (hw : Own.Has w h) (hf : p.Fits n) (hn : n ≤ 1000000) (x : UInt8) (hlo : 220 ≤ x.toNat) (hhi : x.toNat ≤ 223) :
  Calls Tryz.prog 149 #[.pointer (some ⟨b, 0, none⟩), .int .u8 (x.toNat : Int)] w (PinDoes (p.item x) b h w) := by
 obtain ⟨N, hN⟩ : ∃ N, N = x.toNat := ⟨_, rfl⟩
 have HP0 : p.item x = if p.c.done = true ∨ N = 193 then p.on (p.c.fail 2) else if p.c.atKey = true ∧ isText x = false then p.on (p.c.fail 8) else if (199 ≤ N ∧ N ≤ 201) ∨ (212 ≤ N ∧ N ≤ 216) then p.on (p.c.fail 8)
   else if N = 202 ∨ N = 203 then p.on (p.c.fail 6) else if isContainer x = true ∧ p.c.full = true then p.on (p.c.fail 4) else if N < 128 then p.on (p.c.value (.whole false N)) else if 224 ≤ N then p.on (p.c.value (.whole true (255 - N)))
   else if N < 160 then p.count (decide (N < 144)) (N % 16) else if N < 192 then p.on (p.c.length true (N % 32)) else if N = 192 then p.on (p.c.value .null) else if N ≤ 195 then p.on (p.c.value (.bool (decide (N = 195)))) else p.long x := by rw [hN]; rfl
 have HF := Lib.hid (fun (u : World) (t : Own.Turn h h w u) e => cfail_any hi t.has e)
 have HF0 := Lib.hid (fun e => cfail_any hi hw e)
 have HD := Lib.hid (cdone_any hi hw)
 have HA := Lib.hid (catkey_any hi hw hf.c)
 have HFu := Lib.hid (fun (u : World) (t : Own.Turn h h w u) => cfull_any hi t.has)
 have HV := Lib.hid (fun (u : World) (t : Own.Turn h h w u) v => cvalue_any hi t.has hf.c hn v)
 have HLe := Lib.hid (fun (u : World) (t : Own.Turn h h w u) m => clength_any hi t.has hf.c hn true m)
 have HCo := Lib.hid (fun (u : World) (t : Own.Turn h h w u) pr m => pcount_any hi t.has hf.c hn pr m)
 have HLo := Lib.hid (fun (u : World) (t : Own.Turn h h w u) g1 g2 g3 g4 => plong_any hi t.has x g1 g2 g3 g4)
 have HX0 := fun u => ptext_any x u
 have HK := Lib.hid (fun u => pcontainer_any x u)
 have HXd : isText x = false := by unfold isText; simp; omega
 have HKd : isContainer x = ((decide (128 ≤ N) && decide (N ≤ 159)) || (decide (220 ≤ N) && decide (N ≤ 223))) := by rw [hN]; rfl
 rw [HXd] at HX0 HP0
 have HX := Lib.hid HX0
 have HKh := Lib.hid HKd
 have hltI : (N : Int) < 256 := by omega
 have HNl := Lib.hid (show N < 256 by omega)
 have eA : bits .and .u8 (N : Int) 15 = (N : Int) % 16 := bits_mask .u8 8 (by decide) wraps_u8 4 (by decide) (N : Int) (by omega) (by omega)
 have eB : bits .and .u8 (N : Int) 31 = (N : Int) % 32 := bits_mask .u8 8 (by decide) wraps_u8 5 (by decide) (N : Int) (by omega) (by omega)
 obtain ⟨D, hD⟩ : ∃ D, D = 255 - N := ⟨_, rfl⟩
 have eX : bits .xor .u8 IntKind.u8.max (N : Int) = (D : Int) := by
  have := u8_not ⟨N, by omega⟩
  simp only at this
  show bits .xor .u8 255 (N : Int) = (D : Int)
  rw [this]
  omega
 have eW : IntKind.u64.wrap (D : Int) = (D : Int) := by rw [IntKind.wrap_u64]; omega
 rw [← hD] at HP0
 have HDl := Lib.hid (show D < 256 by omega)
 clear hD
 have HPh := Lib.hid HP0
 have HNb := Lib.hid (show 220 ≤ N ∧ N ≤ 223 by omega)
 rw [← hN]
 rw [← hN] at HX HK HLo
 generalize p.item x = O at HPh ⊢
 generalize isContainer x = K at HKh HPh HK
 clear hi hw hf HP0 hN hn HXd HKd hlo hhi HX0
 have q0 : ((N : Int) == 193) = false := by rw [beq_eq_false_iff_ne]; have := HNb.out; omega
 go_enter Tryz.func149, Tryz.ntmps149
 go_wp2_with (fail)
 refine HD.out.mono ?_
 rintro e w1 ⟨rfl, rfl⟩
 cases hd : p.c.done
 case true =>
  have HP := Lib.hid (HPh.out.trans (if_pos (.inl hd)))
  clear HPh hd
  go_wp2_with (fail)
  refine (HF0.out 2).mono ?_
  rintro e w4 ⟨v, hv, h4, rfl, hs, i4, t4⟩
  have HI4 := Lib.hid i4
  have HT4 := Lib.hid t4
  have HS4 := Lib.hid hs
  clear i4 t4 hs
  go_wp2
  go_ret
  rw [HP.out]
  exact ⟨_, hv, h4, rfl, HS4.out, HI4.out, HT4.out⟩
 case false =>
  have HPd := Lib.hid (HPh.out.trans (if_neg (by rw [hd]; first | (simp; done) | (have := HNb.out; simp; omega))))
  clear HPh hd
  go_wp2_with (fail)
  refine HA.out.mono ?_
  rintro e w2 ⟨rfl, t2⟩
  have T2 := Lib.hid t2
  clear t2
  cases hk : p.c.atKey
  ·have HPk := Lib.hid (HPd.out.trans (if_neg (by rw [hk]; simp)))
   clear HPd hk HX
   have a1 : (199 : Int) ≤ (N : Int) := by have := HNb.out; omega
   have a2 : ¬ (N : Int) ≤ 201 := by have := HNb.out; omega
   have a3 : (212 : Int) ≤ (N : Int) := by have := HNb.out; omega
   have a4 : ¬ (N : Int) ≤ 216 := by have := HNb.out; omega
   have a5 : ((N : Int) == 202) = false := by rw [beq_eq_false_iff_ne]; have := HNb.out; omega
   have a6 : ((N : Int) == 203) = false := by rw [beq_eq_false_iff_ne]; have := HNb.out; omega
   have a7 : ¬ (N : Int) < 128 := by have := HNb.out; omega
   have a8 : ¬ (224 : Int) ≤ (N : Int) := by have := HNb.out; omega
   have a9 : ¬ (N : Int) < 160 := by have := HNb.out; omega
   have b2 : ¬ (N : Int) < 192 := by have := HNb.out; omega
   have b3 : ((N : Int) == 192) = false := by rw [beq_eq_false_iff_ne]; have := HNb.out; omega
   have b4 : ¬ (N : Int) ≤ 195 := by have := HNb.out; omega
   have b5 : ((N : Int) == 195) = false := by rw [beq_eq_false_iff_ne]; have := HNb.out; omega
   have HPl := Lib.hid (HPk.out.trans (if_neg (by first | (have := HNb.out; omega) | trivial | (simp; done))))
   clear HPk
   have HPm := Lib.hid (HPl.out.trans (if_neg (by first | (have := HNb.out; omega) | trivial | (simp; done))))
   clear HPl
   have hK : K = true := by rw [HKh.out]; have := HNb.out; first | (simp; done) | (simp; omega)
   rw [hK] at HK HPm
   clear hK HKh
   go_wp2_with (fail)
   refine (HK.out _).mono ?_
   rintro e w3 ⟨rfl, rfl⟩
   go_wp2_with (fail)
   refine (HFu.out _ T2.out).mono ?_
   rintro e w5 ⟨rfl, t5⟩
   have T5 := Lib.hid (T2.out.trans t5)
   clear t5
   cases hu : p.c.full
   ·have HPn := Lib.hid (HPm.out.trans (if_neg (by rw [hu]; simp)))
    clear HPm hu
    have HC2 := Lib.hid (HLo.out _ T5.out (by first | (have := HNb.out; omega) | trivial | (simp; done)) (by first | (have := HNb.out; omega) | trivial | (simp; done)) (by first | (have := HNb.out; omega) | trivial | (simp; done)) (by first | (have := HNb.out; omega) | trivial | (simp; done)))
    have HP := Lib.hid ((((((HPn.out.trans (if_neg (by first | (have := HNb.out; omega) | trivial | (simp; done)))).trans (if_neg (by first | (have := HNb.out; omega) | trivial | (simp; done)))).trans (if_neg (by first | (have := HNb.out; omega) | trivial | (simp; done)))).trans (if_neg (by first | (have := HNb.out; omega) | trivial | (simp; done)))).trans (if_neg (by first | (have := HNb.out; omega) | trivial | (simp; done)))).trans (if_neg (by first | (have := HNb.out; omega) | trivial | (simp; done))))
    clear HPn HNb
    go_wp2_with (fail)
    refine (HC2.out).mono ?_
    rintro e w4 ⟨v, hv, h4, rfl, hs, i4, t4⟩
    have HI4 := Lib.hid i4
    have HT4 := Lib.hid t4
    have HS4 := Lib.hid hs
    clear i4 t4 hs
    go_wp2
    go_ret
    rw [HP.out]
    exact ⟨_, hv, h4, rfl, HS4.out, HI4.out, T5.out.trans HT4.out⟩
   ·have HP := Lib.hid (HPm.out.trans (if_pos (by rw [hu]; simp)))
    clear HPm hu HNb
    go_wp2_with (fail)
    refine (HF.out _ T5.out 4).mono ?_
    rintro e w4 ⟨v, hv, h4, rfl, hs, i4, t4⟩
    have HI4 := Lib.hid i4
    have HT4 := Lib.hid t4
    have HS4 := Lib.hid hs
    clear i4 t4 hs
    go_wp2
    go_ret
    rw [HP.out]
    exact ⟨_, hv, h4, rfl, HS4.out, HI4.out, T5.out.trans HT4.out⟩
  ·go_wp2_with (fail)
   refine (HX.out _).mono ?_
   rintro e w3 ⟨rfl, rfl⟩
   have HP := Lib.hid (HPd.out.trans (if_pos (by rw [hk]; simp)))
   clear HPd hk HX
   go_wp2_with (fail)
   refine (HF.out _ T2.out 8).mono ?_
   rintro e w4 ⟨v, hv, h4, rfl, hs, i4, t4⟩
   have HI4 := Lib.hid i4
   have HT4 := Lib.hid t4
   have HS4 := Lib.hid hs
   clear i4 t4 hs
   go_wp2
   go_ret
   rw [HP.out]
   exact ⟨_, hv, h4, rfl, HS4.out, HI4.out, T2.out.trans HT4.out⟩
set_option maxRecDepth 100000 in
set_option maxHeartbeats 8000000 in
theorem pitem_224 {n : Nat} (hi : p.Is b h) (hw : Own.Has w h) (hf : p.Fits n) (hn : n ≤ 1000000) (x : UInt8) (hlo : 224 ≤ x.toNat) (hhi : x.toNat ≤ 255) :
  Calls Tryz.prog 149 #[.pointer (some ⟨b, 0, none⟩), .int .u8 (x.toNat : Int)] w (PinDoes (p.item x) b h w) := by
 obtain ⟨N, hN⟩ : ∃ N, N = x.toNat := ⟨_, rfl⟩
 have HP0 : p.item x = if p.c.done = true ∨ N = 193 then p.on (p.c.fail 2) else if p.c.atKey = true ∧ isText x = false then p.on (p.c.fail 8) else if (199 ≤ N ∧ N ≤ 201) ∨ (212 ≤ N ∧ N ≤ 216) then p.on (p.c.fail 8)
   else if N = 202 ∨ N = 203 then p.on (p.c.fail 6) else if isContainer x = true ∧ p.c.full = true then p.on (p.c.fail 4) else if N < 128 then p.on (p.c.value (.whole false N)) else if 224 ≤ N then p.on (p.c.value (.whole true (255 - N)))
   else if N < 160 then p.count (decide (N < 144)) (N % 16) else if N < 192 then p.on (p.c.length true (N % 32)) else if N = 192 then p.on (p.c.value .null) else if N ≤ 195 then p.on (p.c.value (.bool (decide (N = 195)))) else p.long x := by rw [hN]; rfl
 have HF := Lib.hid (fun (u : World) (t : Own.Turn h h w u) e => cfail_any hi t.has e)
 have HF0 := Lib.hid (fun e => cfail_any hi hw e)
 have HD := Lib.hid (cdone_any hi hw)
 have HA := Lib.hid (catkey_any hi hw hf.c)
 have HFu := Lib.hid (fun (u : World) (t : Own.Turn h h w u) => cfull_any hi t.has)
 have HV := Lib.hid (fun (u : World) (t : Own.Turn h h w u) v => cvalue_any hi t.has hf.c hn v)
 have HLe := Lib.hid (fun (u : World) (t : Own.Turn h h w u) m => clength_any hi t.has hf.c hn true m)
 have HCo := Lib.hid (fun (u : World) (t : Own.Turn h h w u) pr m => pcount_any hi t.has hf.c hn pr m)
 have HLo := Lib.hid (fun (u : World) (t : Own.Turn h h w u) g1 g2 g3 g4 => plong_any hi t.has x g1 g2 g3 g4)
 have HX0 := fun u => ptext_any x u
 have HK := Lib.hid (fun u => pcontainer_any x u)
 have HXd : isText x = false := by unfold isText; simp; omega
 have HKd : isContainer x = ((decide (128 ≤ N) && decide (N ≤ 159)) || (decide (220 ≤ N) && decide (N ≤ 223))) := by rw [hN]; rfl
 rw [HXd] at HX0 HP0
 have HX := Lib.hid HX0
 have HKh := Lib.hid HKd
 have hltI : (N : Int) < 256 := by omega
 have HNl := Lib.hid (show N < 256 by omega)
 have eA : bits .and .u8 (N : Int) 15 = (N : Int) % 16 := bits_mask .u8 8 (by decide) wraps_u8 4 (by decide) (N : Int) (by omega) (by omega)
 have eB : bits .and .u8 (N : Int) 31 = (N : Int) % 32 := bits_mask .u8 8 (by decide) wraps_u8 5 (by decide) (N : Int) (by omega) (by omega)
 obtain ⟨D, hD⟩ : ∃ D, D = 255 - N := ⟨_, rfl⟩
 have eX : bits .xor .u8 IntKind.u8.max (N : Int) = (D : Int) := by
  have := u8_not ⟨N, by omega⟩
  simp only at this
  show bits .xor .u8 255 (N : Int) = (D : Int)
  rw [this]
  omega
 have eW : IntKind.u64.wrap (D : Int) = (D : Int) := by rw [IntKind.wrap_u64]; omega
 rw [← hD] at HP0
 have HDl := Lib.hid (show D < 256 by omega)
 clear hD
 have HPh := Lib.hid HP0
 have HNb := Lib.hid (show 224 ≤ N ∧ N ≤ 255 by omega)
 rw [← hN]
 rw [← hN] at HX HK HLo
 generalize p.item x = O at HPh ⊢
 generalize isContainer x = K at HKh HPh HK
 clear hi hw hf HP0 hN hn HXd HKd hlo hhi HX0
 have q0 : ((N : Int) == 193) = false := by rw [beq_eq_false_iff_ne]; have := HNb.out; omega
 go_enter Tryz.func149, Tryz.ntmps149
 go_wp2_with (fail)
 refine HD.out.mono ?_
 rintro e w1 ⟨rfl, rfl⟩
 cases hd : p.c.done
 case true =>
  have HP := Lib.hid (HPh.out.trans (if_pos (.inl hd)))
  clear HPh hd
  go_wp2_with (fail)
  refine (HF0.out 2).mono ?_
  rintro e w4 ⟨v, hv, h4, rfl, hs, i4, t4⟩
  have HI4 := Lib.hid i4
  have HT4 := Lib.hid t4
  have HS4 := Lib.hid hs
  clear i4 t4 hs
  go_wp2
  go_ret
  rw [HP.out]
  exact ⟨_, hv, h4, rfl, HS4.out, HI4.out, HT4.out⟩
 case false =>
  have HPd := Lib.hid (HPh.out.trans (if_neg (by rw [hd]; first | (simp; done) | (have := HNb.out; simp; omega))))
  clear HPh hd
  go_wp2_with (fail)
  refine HA.out.mono ?_
  rintro e w2 ⟨rfl, t2⟩
  have T2 := Lib.hid t2
  clear t2
  cases hk : p.c.atKey
  ·have HPk := Lib.hid (HPd.out.trans (if_neg (by rw [hk]; simp)))
   clear HPd hk HX
   have a1 : (199 : Int) ≤ (N : Int) := by have := HNb.out; omega
   have a2 : ¬ (N : Int) ≤ 201 := by have := HNb.out; omega
   have a3 : (212 : Int) ≤ (N : Int) := by have := HNb.out; omega
   have a4 : ¬ (N : Int) ≤ 216 := by have := HNb.out; omega
   have a5 : ((N : Int) == 202) = false := by rw [beq_eq_false_iff_ne]; have := HNb.out; omega
   have a6 : ((N : Int) == 203) = false := by rw [beq_eq_false_iff_ne]; have := HNb.out; omega
   have a7 : ¬ (N : Int) < 128 := by have := HNb.out; omega
   have a8 : (224 : Int) ≤ (N : Int) := by have := HNb.out; omega
   have HPl := Lib.hid (HPk.out.trans (if_neg (by first | (have := HNb.out; omega) | trivial | (simp; done))))
   clear HPk
   have HPm := Lib.hid (HPl.out.trans (if_neg (by first | (have := HNb.out; omega) | trivial | (simp; done))))
   clear HPl
   have hK : K = false := by rw [HKh.out]; have := HNb.out; first | (simp; done) | (simp; omega)
   rw [hK] at HK HPm
   clear hK HKh
   go_wp2_with (fail)
   refine (HK.out _).mono ?_
   rintro e w3 ⟨rfl, rfl⟩
   have HPn := Lib.hid (HPm.out.trans (if_neg (by simp)))
   clear HPm
   have HP := Lib.hid ((HPn.out.trans (if_neg (by first | (have := HNb.out; omega) | trivial | (simp; done)))).trans (if_pos (by first | (have := HNb.out; omega) | trivial | (simp; done))))
   clear HPn HNb
   go_wp2_with (fail)
   refine (HV.out _ T2.out (.whole true D)).mono ?_
   rintro e w4 ⟨v, hv, h4, rfl, hs, i4, t4⟩
   have HI4 := Lib.hid i4
   have HT4 := Lib.hid t4
   have HS4 := Lib.hid hs
   clear i4 t4 hs
   go_wp2
   go_ret
   rw [HP.out]
   exact ⟨_, hv, h4, rfl, HS4.out, HI4.out, T2.out.trans HT4.out⟩
  ·go_wp2_with (fail)
   refine (HX.out _).mono ?_
   rintro e w3 ⟨rfl, rfl⟩
   have HP := Lib.hid (HPd.out.trans (if_pos (by rw [hk]; simp)))
   clear HPd hk HX
   go_wp2_with (fail)
   refine (HF.out _ T2.out 8).mono ?_
   rintro e w4 ⟨v, hv, h4, rfl, hs, i4, t4⟩
   have HI4 := Lib.hid i4
   have HT4 := Lib.hid t4
   have HS4 := Lib.hid hs
   clear i4 t4 hs
   go_wp2
   go_ret
   rw [HP.out]
   exact ⟨_, hv, h4, rfl, HS4.out, HI4.out, T2.out.trans HT4.out⟩
end
end Pip
end Go.Proofs.YthnbpnfaghjamaaGreat

/- packin.Parser: the first byte of an item. (Written by wip/gen_pini.py.) -/
namespace Go.Proofs.YthnbpnfaghjamaaGreat
open Go.RowKit
open Json (Part)
namespace Pip
section
variable {p : Pin} {b : Nat} {h : Own.Heap} {w : World}
theorem pitem_any {n : Nat} (hi : p.Is b h) (hw : Own.Has w h) (hf : p.Fits n) (hn : n ≤ 1000000) (x : UInt8) :
  Calls Tryz.prog 149 #[.pointer (some ⟨b, 0, none⟩), .int .u8 (x.toNat : Int)] w (PinDoes (p.item x) b h w) := by
 have hlt := UInt8.toNat_lt x
 by_cases g0 : x.toNat ≤ 127
 ·exact pitem_0 hi hw hf hn x (by omega) g0
 by_cases g128 : x.toNat ≤ 143
 ·exact pitem_128 hi hw hf hn x (by omega) g128
 by_cases g144 : x.toNat ≤ 159
 ·exact pitem_144 hi hw hf hn x (by omega) g144
 by_cases g160 : x.toNat ≤ 191
 ·exact pitem_160 hi hw hf hn x (by omega) g160
 by_cases g192 : x.toNat ≤ 192
 ·exact pitem_192 hi hw hf hn x (by omega) g192
 by_cases g193 : x.toNat ≤ 193
 ·exact pitem_193 hi hw hf hn x (by omega) g193
 by_cases g194 : x.toNat ≤ 194
 ·exact pitem_194 hi hw hf hn x (by omega) g194
 by_cases g195 : x.toNat ≤ 195
 ·exact pitem_195 hi hw hf hn x (by omega) g195
 by_cases g196 : x.toNat ≤ 198
 ·exact pitem_196 hi hw hf hn x (by omega) g196
 by_cases g199 : x.toNat ≤ 201
 ·exact pitem_199 hi hw hf hn x (by omega) g199
 by_cases g202 : x.toNat ≤ 202
 ·exact pitem_202 hi hw hf hn x (by omega) g202
 by_cases g203 : x.toNat ≤ 203
 ·exact pitem_203 hi hw hf hn x (by omega) g203
 by_cases g204 : x.toNat ≤ 211
 ·exact pitem_204 hi hw hf hn x (by omega) g204
 by_cases g212 : x.toNat ≤ 216
 ·exact pitem_212 hi hw hf hn x (by omega) g212
 by_cases g217 : x.toNat ≤ 219
 ·exact pitem_217 hi hw hf hn x (by omega) g217
 by_cases g220 : x.toNat ≤ 223
 ·exact pitem_220 hi hw hf hn x (by omega) g220
 exact pitem_224 hi hw hf hn x (by omega) (by omega)
end
end Pip
end Go.Proofs.YthnbpnfaghjamaaGreat

/- The reference's Big: a number in one byte, in two. -/
namespace Go.Proofs.YthnbpnfaghjamaaGreat
open Go.RowKit
open Json (Part)
namespace Pip
theorem and255 (v : Nat) (h : v < 18446744073709551616) : bits .and .u64 (v : Int) 255 = ((v % 256 : Nat) : Int) := by
 have := u64_and_nat v 255 h (by decide)
 rw [show v &&& 255 = v % 256 from Nat.and_two_pow_sub_one_eq_mod v 8] at this
 exact this
set_option maxRecDepth 100000 in
set_option maxHeartbeats 4000000 in
theorem rbig1_any (v : Nat) (hv : v < 65536) (w : World) :
  Calls Tryz.prog 57 #[.int .u64 (v : Int), .int .i64 1] w fun e w' => e = .returned (.string ⟨(big v 1).toArray⟩) ∧ Below w.heap.size w w' := by
 have HB := Lib.hid (fun o => (Below.refl w.heap.size w).alloc (Nat.le_refl _) o)
 have HP := Lib.hid (big_1 v)
 have ha := and255 v (by omega)
 obtain ⟨A, hA⟩ : ∃ A : Int, A = ((v % 256 : Nat) : Int) := ⟨_, rfl⟩
 rw [← hA] at ha
 have hw8 : IntKind.u8.wrap A = A := by rw [IntKind.wrap_u8]; omega
 have hz : madeCells #[Value.int .u8 0] 1 = #[Value.int .u8 0] := by rw [Own.made_list]; rfl
 have hmk : ∀ W, (Instr.makeSlice 47 (.int .i64 1) (.int .i64 1)).run Tryz.prog W = .ok (.slice (some ⟨W.heap.size, 0, none⟩) 1 1) (W.alloc (.cells #[Value.int .u8 0] 5)) := fun W => by
  have h := run_make_row' (P := Tryz.prog) 47 5 (.int .u8 0) 1 Tryz.underlying47 (by kernel_rfl) rfl .i64 .i64 1 (by omega) (by omega) W
  rw [hz] at h
  exact h
 obtain ⟨S, hS⟩ : ∃ S : ByteArray, S = ⟨([UInt8.ofNat v] : List UInt8).toArray⟩ := ⟨_, rfl⟩
 have hcv : (convert 47 9 (.slice (some ⟨w.heap.size, 0, none⟩) 1 1)).run Tryz.prog (w.alloc (.cells #[.int .u8 A] 5)) = .ok (.string S) (w.alloc (.cells #[.int .u8 A] 5)) := by
  have h := hcv_new w w.heap.size rfl [UInt8.ofNat v] 1 rfl (by decide)
  have e : (u8s [UInt8.ofNat v]).toArray = #[.int .u8 A] := by
   simp only [u8s, List.map_cons, List.map_nil, UInt8.toNat_ofNat']
   rw [hA]
  rw [e, ← hS] at h
  exact h
 have HS := Lib.hid hS
 clear hS hz hA
 go_enter Tryz.func57, Tryz.ntmps57
 go_wp2
 refine wp_loop_rounds 2 ?_
 rw [rounds_succ]
 go_wp2
 rw [rounds_succ]
 go_wp2
 go_ret
 exact ⟨by rw [HP.out, ← HS.out]; rfl, HB.out _⟩
set_option maxRecDepth 100000 in
set_option maxHeartbeats 4000000 in
theorem rbig2_any (v : Nat) (hv : v < 65536) (w : World) :
  Calls Tryz.prog 57 #[.int .u64 (v : Int), .int .i64 2] w fun e w' => e = .returned (.string ⟨(big v 2).toArray⟩) ∧ Below w.heap.size w w' := by
 have HB := Lib.hid (fun o => (Below.refl w.heap.size w).alloc (Nat.le_refl _) o)
 have HP := Lib.hid (big_2 v)
 have ha := and255 v (by omega)
 have hb := and255 (v / 256) (by omega)
 rw [show ((v / 256 : Nat) : Int) = (v : Int) / 256 by omega] at hb
 obtain ⟨B, hB⟩ : ∃ B : Int, B = ((v / 256 % 256 : Nat) : Int) := ⟨_, rfl⟩
 rw [← hB] at hb
 have hwB : IntKind.u8.wrap B = B := by rw [IntKind.wrap_u8]; omega
 obtain ⟨A, hA⟩ : ∃ A : Int, A = ((v % 256 : Nat) : Int) := ⟨_, rfl⟩
 rw [← hA] at ha
 have hw8 : IntKind.u8.wrap A = A := by rw [IntKind.wrap_u8]; omega
 have hz : madeCells #[Value.int .u8 0] 2 = #[Value.int .u8 0, Value.int .u8 0] := by rw [Own.made_list]; rfl
 have hmk : ∀ W, (Instr.makeSlice 47 (.int .i64 2) (.int .i64 2)).run Tryz.prog W = .ok (.slice (some ⟨W.heap.size, 0, none⟩) 2 2) (W.alloc (.cells #[Value.int .u8 0, Value.int .u8 0] 5)) := fun W => by
  have h := run_make_row' (P := Tryz.prog) 47 5 (.int .u8 0) 1 Tryz.underlying47 (by kernel_rfl) rfl .i64 .i64 2 (by omega) (by omega) W
  rw [hz] at h
  exact h
 obtain ⟨S, hS⟩ : ∃ S : ByteArray, S = ⟨([UInt8.ofNat (v / 256), UInt8.ofNat v] : List UInt8).toArray⟩ := ⟨_, rfl⟩
 have hcv : (convert 47 9 (.slice (some ⟨w.heap.size, 0, none⟩) 2 2)).run Tryz.prog (w.alloc (.cells #[.int .u8 B, .int .u8 A] 5)) = .ok (.string S) (w.alloc (.cells #[.int .u8 B, .int .u8 A] 5)) := by
  have h := hcv_new w w.heap.size rfl [UInt8.ofNat (v / 256), UInt8.ofNat v] 2 rfl (by decide)
  have e : (u8s [UInt8.ofNat (v / 256), UInt8.ofNat v]).toArray = #[.int .u8 B, .int .u8 A] := by
   simp only [u8s, List.map_cons, List.map_nil, UInt8.toNat_ofNat']
   rw [hA, hB]
  rw [e, ← hS] at h
  exact h
 have HS := Lib.hid hS
 clear hS hz hA hB
 go_enter Tryz.func57, Tryz.ntmps57
 go_wp2
 refine wp_loop_rounds 3 ?_
 rw [rounds_succ]
 go_wp2
 rw [rounds_succ]
 go_wp2
 rw [rounds_succ]
 go_wp2
 go_ret
 exact ⟨by rw [HP.out, ← HS.out]; rfl, HB.out _⟩
end Pip
end Go.Proofs.YthnbpnfaghjamaaGreat

/- The reference's Head of texts and bytes, up to 65535. -/
namespace Go.Proofs.YthnbpnfaghjamaaGreat
open Go.RowKit
open Json (Part)
namespace Pip
set_option maxRecDepth 100000 in
set_option maxHeartbeats 4000000 in
theorem rhead2_few (v : Nat) (hv : v < 24) (w : World) :
  Calls Tryz.prog 45 #[.int .i64 2, .int .u64 (v : Int)] w fun e w' => e = .returned (.string ⟨(put 2 v).toArray⟩) ∧ Below w.heap.size w w' := by
 have HB := Lib.hid (fun o => (Below.refl w.heap.size w).alloc (Nat.le_refl _) o)
 have HP := Lib.hid (show put 2 v = [UInt8.ofNat (64 + v)] by unfold put; rw [if_pos hv]; simp [big_1])
 have hwv : IntKind.u8.wrap (v : Int) = (v : Int) := by rw [IntKind.wrap_u8]; omega
 obtain ⟨A, hA⟩ : ∃ A : Int, A = 64 + (v : Int) := ⟨_, rfl⟩
 have hw8 : IntKind.u8.wrap (64 + (v : Int)) = A := by rw [IntKind.wrap_u8]; omega
 have hlt : (v : Int) < 24 := by omega
 obtain ⟨S, hS⟩ : ∃ S : ByteArray, S = ⟨([UInt8.ofNat (64 + v)] : List UInt8).toArray⟩ := ⟨_, rfl⟩
 have hcv : (convert 47 9 (.slice (some ⟨w.heap.size, 0, none⟩) 1 1)).run Tryz.prog (w.alloc (.cells #[.int .u8 A] 5)) = .ok (.string S) (w.alloc (.cells #[.int .u8 A] 5)) := by
  have h := hcv_new w w.heap.size rfl [UInt8.ofNat (64 + v)] 1 rfl (by decide)
  have e : (u8s [UInt8.ofNat (64 + v)]).toArray = #[.int .u8 A] := by
   simp only [u8s, List.map_cons, List.map_nil, UInt8.toNat_ofNat']
   rw [hA, show (((64 + v) % 2 ^ 8 : Nat) : Int) = 64 + (v : Int) by omega]
  rw [e, ← hS] at h
  exact h
 have HS := Lib.hid hS
 clear hS hA hv
 go_enter Tryz.func45, Tryz.ntmps45
 go_wp2
 go_ret
 exact ⟨by rw [HP.out, ← HS.out]; rfl, HB.out _⟩
end Pip
end Go.Proofs.YthnbpnfaghjamaaGreat
