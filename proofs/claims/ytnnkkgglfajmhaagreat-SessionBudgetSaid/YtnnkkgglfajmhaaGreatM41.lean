/- Texts of the walk, joined. -/
import Derived.Test.YtnnkkgglfajmhaaGreatM30
set_option maxRecDepth 100000
set_option maxHeartbeats 8000000
namespace Go.Proofs.YtnnkkgglfajmhaaGreat
section
open Go.RowKit
open Json (Part)
namespace Pip
section
variable {p : Pin} {b : Nat} {h : Own.Heap} {w : World}
theorem pitem_0 {n : Nat} (hi : p.Is b h) (hw : Own.Has w h) (hf : p.Fits n) (hn : n ≤ 1000000) (x : UInt8) (hlo : 0 ≤ x.toNat) (hhi : x.toNat ≤ 127) :
  Calls Tryz.prog 147 #[.pointer (some ⟨b, 0, none⟩), .int .u8 (x.toNat : Int)] w (PinDoes (p.item x) b h w) := by
 obtain ⟨N, hN⟩ : ∃ N, N = x.toNat := ⟨_, rfl⟩
 have HP0 : p.item x = if p.c.done = true ∨ N = 193 then p.on (p.c.fail 2) else if p.c.atKey = true ∧ isText x = false then p.on (p.c.fail 8) else if (199 ≤ N ∧ N ≤ 201) ∨ (212 ≤ N ∧ N ≤ 216) then p.on (p.c.fail 8)
   else if N = 202 ∨ N = 203 then p.on (p.c.fail 6) else if isContainer x = true ∧ p.c.full = true then p.on (p.c.fail 4) else if N < 128 then p.on (p.c.value (.whole false N)) else if 224 ≤ N then p.on (p.c.value (.whole true (255 - N)))
   else if N < 160 then p.count (decide (N < 144)) (N % 16) else if N < 192 then p.on (p.c.length true (N % 32)) else if N = 192 then p.on (p.c.value .null) else if N ≤ 195 then p.on (p.c.value (.bool (decide (N = 195)))) else p.long x := by rw [hN]; rfl
 have HF := hhh (fun (u : World) (t : Own.Turn h h w u) e => cfail_any hi t.has e)
 have HF0 := hhh (fun e => cfail_any hi hw e)
 have HD := hhh (cdone_any hi hw)
 have HA := hhh (catkey_any hi hw hf.c)
 have HFu := hhh (fun (u : World) (t : Own.Turn h h w u) => cfull_any hi t.has)
 have HV := hhh (fun (u : World) (t : Own.Turn h h w u) v => cvalue_any hi t.has hf.c hn v)
 have HLe := hhh (fun (u : World) (t : Own.Turn h h w u) m => clength_any hi t.has hf.c hn true m)
 have HCo := hhh (fun (u : World) (t : Own.Turn h h w u) pr m => pcount_any hi t.has hf.c hn pr m)
 have HLo := hhh (fun (u : World) (t : Own.Turn h h w u) g1 g2 g3 g4 => plong_any hi t.has x g1 g2 g3 g4)
 have HX0 := fun u => ptext_any x u
 have HK := hhh (fun u => pcontainer_any x u)
 have HXd : isText x = false := by unfold isText; simp; omega
 have HKd : isContainer x = ((decide (128 ≤ N) && decide (N ≤ 159)) || (decide (220 ≤ N) && decide (N ≤ 223))) := by rw [hN]; rfl
 rw [HXd] at HX0 HP0
 have HX := hhh HX0
 have HKh := hhh HKd
 have hltI : (N : Int) < 256 := by omega
 have HNl := hhh (show N < 256 by omega)
 have eA : bits .and .u8 (N : Int) 15 = (N : Int) % 16 := bits_mask .u8 8 (by decide) wraps_u8 4 (by decide) (N : Int) (by omega) (by omega)
 have eB : bits .and .u8 (N : Int) 31 = (N : Int) % 32 := bits_mask .u8 8 (by decide) wraps_u8 5 (by decide) (N : Int) (by omega) (by omega)
 obtain ⟨D, hD⟩ : ∃ D, D = 255 - N := ⟨_, rfl⟩
 have eX : bits .xor .u8 IntKind.u8.max (N : Int) = (D : Int) := by
  have := u8_not ⟨N, by omega⟩
  simp only at this
  show bits .xor .u8 255 (N : Int) = (D : Int)
  rw [this]
  omega
 have eW : IntKind.u64.wrap (D : Int) = (D : Int) := by rw [IntKind.wrap_u64]; omega
 rw [← hD] at HP0
 have HDl := hhh (show D < 256 by omega)
 clear hD
 have HPh := hhh HP0
 have HNb := hhh (show 0 ≤ N ∧ N ≤ 127 by omega)
 rw [← hN]
 rw [← hN] at HX HK HLo
 generalize p.item x = O at HPh ⊢
 generalize isContainer x = K at HKh HPh HK
 clear hi hw hf HP0 hN hn HXd HKd hlo hhi HX0
 have q0 : ((N : Int) == 193) = false := by rw [beq_eq_false_iff_ne]; have := HNb.out; omega
 go_enter Tryz.func147, Tryz.ntmps147
 go_wp2_with (fail)
 refine HD.out.mono ?_
 rintro e w1 ⟨rfl, rfl⟩
 cases hd : p.c.done
 case true =>
  have HP := hhh (HPh.out.trans (if_pos (.inl hd)))
  clear HPh hd
  go_wp2_with (fail)
  refine (HF0.out 2).mono ?_
  rintro e w4 ⟨v, hv, h4, rfl, hs, i4, t4⟩
  have HI4 := hhh i4
  have HT4 := hhh t4
  have HS4 := hhh hs
  clear i4 t4 hs
  go_wp2
  go_ret
  rw [HP.out]
  exact ⟨_, hv, h4, rfl, HS4.out, HI4.out, HT4.out⟩
 case false =>
  have HPd := hhh (HPh.out.trans (if_neg (by rw [hd]; first | (simp; done) | (have := HNb.out; simp; omega))))
  clear HPh hd
  go_wp2_with (fail)
  refine HA.out.mono ?_
  rintro e w2 ⟨rfl, t2⟩
  have T2 := hhh t2
  clear t2
  cases hk : p.c.atKey
  ·have HPk := hhh (HPd.out.trans (if_neg (by rw [hk]; simp)))
   clear HPd hk HX
   have a1 : ¬ (199 : Int) ≤ (N : Int) := by have := HNb.out; omega
   have a3 : ¬ (212 : Int) ≤ (N : Int) := by have := HNb.out; omega
   have a5 : ((N : Int) == 202) = false := by rw [beq_eq_false_iff_ne]; have := HNb.out; omega
   have a6 : ((N : Int) == 203) = false := by rw [beq_eq_false_iff_ne]; have := HNb.out; omega
   have a7 : (N : Int) < 128 := by have := HNb.out; omega
   have HPl := hhh (HPk.out.trans (if_neg (by first | (have := HNb.out; omega) | trivial | (simp; done))))
   clear HPk
   have HPm := hhh (HPl.out.trans (if_neg (by first | (have := HNb.out; omega) | trivial | (simp; done))))
   clear HPl
   have hK : K = false := by rw [HKh.out]; have := HNb.out; first | (simp; done) | (simp; omega)
   rw [hK] at HK HPm
   clear hK HKh
   go_wp2_with (fail)
   refine (HK.out _).mono ?_
   rintro e w3 ⟨rfl, rfl⟩
   have HPn := hhh (HPm.out.trans (if_neg (by simp)))
   clear HPm
   have HP := hhh (HPn.out.trans (if_pos (by first | (have := HNb.out; omega) | trivial | (simp; done))))
   clear HPn HNb
   go_wp2_with (fail)
   refine (HV.out _ T2.out (.whole false N)).mono ?_
   rintro e w4 ⟨v, hv, h4, rfl, hs, i4, t4⟩
   have HI4 := hhh i4
   have HT4 := hhh t4
   have HS4 := hhh hs
   clear i4 t4 hs
   go_wp2
   go_ret
   rw [HP.out]
   exact ⟨_, hv, h4, rfl, HS4.out, HI4.out, T2.out.trans HT4.out⟩
  ·go_wp2_with (fail)
   refine (HX.out _).mono ?_
   rintro e w3 ⟨rfl, rfl⟩
   have HP := hhh (HPd.out.trans (if_pos (by rw [hk]; simp)))
   clear HPd hk HX
   go_wp2_with (fail)
   refine (HF.out _ T2.out 8).mono ?_
   rintro e w4 ⟨v, hv, h4, rfl, hs, i4, t4⟩
   have HI4 := hhh i4
   have HT4 := hhh t4
   have HS4 := hhh hs
   clear i4 t4 hs
   go_wp2
   go_ret
   rw [HP.out]
   exact ⟨_, hv, h4, rfl, HS4.out, HI4.out, T2.out.trans HT4.out⟩
theorem pitem_128 {n : Nat} (hi : p.Is b h) (hw : Own.Has w h) (hf : p.Fits n) (hn : n ≤ 1000000) (x : UInt8) (hlo : 128 ≤ x.toNat) (hhi : x.toNat ≤ 143) :
  Calls Tryz.prog 147 #[.pointer (some ⟨b, 0, none⟩), .int .u8 (x.toNat : Int)] w (PinDoes (p.item x) b h w) := by
 obtain ⟨N, hN⟩ : ∃ N, N = x.toNat := ⟨_, rfl⟩
 have HP0 : p.item x = if p.c.done = true ∨ N = 193 then p.on (p.c.fail 2) else if p.c.atKey = true ∧ isText x = false then p.on (p.c.fail 8) else if (199 ≤ N ∧ N ≤ 201) ∨ (212 ≤ N ∧ N ≤ 216) then p.on (p.c.fail 8)
   else if N = 202 ∨ N = 203 then p.on (p.c.fail 6) else if isContainer x = true ∧ p.c.full = true then p.on (p.c.fail 4) else if N < 128 then p.on (p.c.value (.whole false N)) else if 224 ≤ N then p.on (p.c.value (.whole true (255 - N)))
   else if N < 160 then p.count (decide (N < 144)) (N % 16) else if N < 192 then p.on (p.c.length true (N % 32)) else if N = 192 then p.on (p.c.value .null) else if N ≤ 195 then p.on (p.c.value (.bool (decide (N = 195)))) else p.long x := by rw [hN]; rfl
 have HF := hhh (fun (u : World) (t : Own.Turn h h w u) e => cfail_any hi t.has e)
 have HF0 := hhh (fun e => cfail_any hi hw e)
 have HD := hhh (cdone_any hi hw)
 have HA := hhh (catkey_any hi hw hf.c)
 have HFu := hhh (fun (u : World) (t : Own.Turn h h w u) => cfull_any hi t.has)
 have HV := hhh (fun (u : World) (t : Own.Turn h h w u) v => cvalue_any hi t.has hf.c hn v)
 have HLe := hhh (fun (u : World) (t : Own.Turn h h w u) m => clength_any hi t.has hf.c hn true m)
 have HCo := hhh (fun (u : World) (t : Own.Turn h h w u) pr m => pcount_any hi t.has hf.c hn pr m)
 have HLo := hhh (fun (u : World) (t : Own.Turn h h w u) g1 g2 g3 g4 => plong_any hi t.has x g1 g2 g3 g4)
 have HX0 := fun u => ptext_any x u
 have HK := hhh (fun u => pcontainer_any x u)
 have HXd : isText x = false := by unfold isText; simp; omega
 have HKd : isContainer x = ((decide (128 ≤ N) && decide (N ≤ 159)) || (decide (220 ≤ N) && decide (N ≤ 223))) := by rw [hN]; rfl
 rw [HXd] at HX0 HP0
 have HX := hhh HX0
 have HKh := hhh HKd
 have hltI : (N : Int) < 256 := by omega
 have HNl := hhh (show N < 256 by omega)
 have eA : bits .and .u8 (N : Int) 15 = (N : Int) % 16 := bits_mask .u8 8 (by decide) wraps_u8 4 (by decide) (N : Int) (by omega) (by omega)
 have eB : bits .and .u8 (N : Int) 31 = (N : Int) % 32 := bits_mask .u8 8 (by decide) wraps_u8 5 (by decide) (N : Int) (by omega) (by omega)
 obtain ⟨D, hD⟩ : ∃ D, D = 255 - N := ⟨_, rfl⟩
 have eX : bits .xor .u8 IntKind.u8.max (N : Int) = (D : Int) := by
  have := u8_not ⟨N, by omega⟩
  simp only at this
  show bits .xor .u8 255 (N : Int) = (D : Int)
  rw [this]
  omega
 have eW : IntKind.u64.wrap (D : Int) = (D : Int) := by rw [IntKind.wrap_u64]; omega
 rw [← hD] at HP0
 have HDl := hhh (show D < 256 by omega)
 clear hD
 have HPh := hhh HP0
 have HNb := hhh (show 128 ≤ N ∧ N ≤ 143 by omega)
 rw [← hN]
 rw [← hN] at HX HK HLo
 generalize p.item x = O at HPh ⊢
 generalize isContainer x = K at HKh HPh HK
 clear hi hw hf HP0 hN hn HXd HKd hlo hhi HX0
 have q0 : ((N : Int) == 193) = false := by rw [beq_eq_false_iff_ne]; have := HNb.out; omega
 go_enter Tryz.func147, Tryz.ntmps147
 go_wp2_with (fail)
 refine HD.out.mono ?_
 rintro e w1 ⟨rfl, rfl⟩
 cases hd : p.c.done
 case true =>
  have HP := hhh (HPh.out.trans (if_pos (.inl hd)))
  clear HPh hd
  go_wp2_with (fail)
  refine (HF0.out 2).mono ?_
  rintro e w4 ⟨v, hv, h4, rfl, hs, i4, t4⟩
  have HI4 := hhh i4
  have HT4 := hhh t4
  have HS4 := hhh hs
  clear i4 t4 hs
  go_wp2
  go_ret
  rw [HP.out]
  exact ⟨_, hv, h4, rfl, HS4.out, HI4.out, HT4.out⟩
 case false =>
  have HPd := hhh (HPh.out.trans (if_neg (by rw [hd]; first | (simp; done) | (have := HNb.out; simp; omega))))
  clear HPh hd
  go_wp2_with (fail)
  refine HA.out.mono ?_
  rintro e w2 ⟨rfl, t2⟩
  have T2 := hhh t2
  clear t2
  cases hk : p.c.atKey
  ·have HPk := hhh (HPd.out.trans (if_neg (by rw [hk]; simp)))
   clear HPd hk HX
   have a1 : ¬ (199 : Int) ≤ (N : Int) := by have := HNb.out; omega
   have a3 : ¬ (212 : Int) ≤ (N : Int) := by have := HNb.out; omega
   have a5 : ((N : Int) == 202) = false := by rw [beq_eq_false_iff_ne]; have := HNb.out; omega
   have a6 : ((N : Int) == 203) = false := by rw [beq_eq_false_iff_ne]; have := HNb.out; omega
   have a7 : ¬ (N : Int) < 128 := by have := HNb.out; omega
   have a8 : ¬ (224 : Int) ≤ (N : Int) := by have := HNb.out; omega
   have a9 : (N : Int) < 160 := by have := HNb.out; omega
   have b1 : (N : Int) < 144 := by have := HNb.out; omega
   have HPl := hhh (HPk.out.trans (if_neg (by first | (have := HNb.out; omega) | trivial | (simp; done))))
   clear HPk
   have HPm := hhh (HPl.out.trans (if_neg (by first | (have := HNb.out; omega) | trivial | (simp; done))))
   clear HPl
   have hK : K = true := by rw [HKh.out]; have := HNb.out; first | (simp; done) | (simp; omega)
   rw [hK] at HK HPm
   clear hK HKh
   go_wp2_with (fail)
   refine (HK.out _).mono ?_
   rintro e w3 ⟨rfl, rfl⟩
   go_wp2_with (fail)
   refine (HFu.out _ T2.out).mono ?_
   rintro e w5 ⟨rfl, t5⟩
   have T5 := hhh (T2.out.trans t5)
   clear t5
   cases hu : p.c.full
   ·have HPn := hhh (HPm.out.trans (if_neg (by rw [hu]; simp)))
    clear HPm hu
    have e1 : ((N % 16 : Nat) : Int) = (N : Int) % 16 := by omega
    have HC1 := HCo.out _ T5.out true (N % 16)
    rw [e1] at HC1
    have HC2 := hhh HC1
    clear e1 HC1
    have HP := hhh (((HPn.out.trans (if_neg (by first | (have := HNb.out; omega) | trivial | (simp; done)))).trans (if_neg (by first | (have := HNb.out; omega) | trivial | (simp; done)))).trans ((if_pos (by first | (have := HNb.out; omega) | trivial | (simp; done))).trans (show _ = p.count true (N % 16) by rw [show decide (N < 144) = true by have := HNb.out; first | (simp; done) | (simp; omega)])))
    clear HPn HNb
    go_wp2_with (fail)
    refine (HC2.out).mono ?_
    rintro e w4 ⟨v, hv, h4, rfl, hs, i4, t4⟩
    have HI4 := hhh i4
    have HT4 := hhh t4
    have HS4 := hhh hs
    clear i4 t4 hs
    go_wp2
    go_ret
    rw [HP.out]
    exact ⟨_, hv, h4, rfl, HS4.out, HI4.out, T5.out.trans HT4.out⟩
   ·have HP := hhh (HPm.out.trans (if_pos (by rw [hu]; simp)))
    clear HPm hu HNb
    go_wp2_with (fail)
    refine (HF.out _ T5.out 4).mono ?_
    rintro e w4 ⟨v, hv, h4, rfl, hs, i4, t4⟩
    have HI4 := hhh i4
    have HT4 := hhh t4
    have HS4 := hhh hs
    clear i4 t4 hs
    go_wp2
    go_ret
    rw [HP.out]
    exact ⟨_, hv, h4, rfl, HS4.out, HI4.out, T5.out.trans HT4.out⟩
  ·go_wp2_with (fail)
   refine (HX.out _).mono ?_
   rintro e w3 ⟨rfl, rfl⟩
   have HP := hhh (HPd.out.trans (if_pos (by rw [hk]; simp)))
   clear HPd hk HX
   go_wp2_with (fail)
   refine (HF.out _ T2.out 8).mono ?_
   rintro e w4 ⟨v, hv, h4, rfl, hs, i4, t4⟩
   have HI4 := hhh i4
   have HT4 := hhh t4
   have HS4 := hhh hs
   clear i4 t4 hs
   go_wp2
   go_ret
   rw [HP.out]
   exact ⟨_, hv, h4, rfl, HS4.out, HI4.out, T2.out.trans HT4.out⟩
theorem pitem_144 {n : Nat} (hi : p.Is b h) (hw : Own.Has w h) (hf : p.Fits n) (hn : n ≤ 1000000) (x : UInt8) (hlo : 144 ≤ x.toNat) (hhi : x.toNat ≤ 159) :
  Calls Tryz.prog 147 #[.pointer (some ⟨b, 0, none⟩), .int .u8 (x.toNat : Int)] w (PinDoes (p.item x) b h w) := by
 obtain ⟨N, hN⟩ : ∃ N, N = x.toNat := ⟨_, rfl⟩
 have HP0 : p.item x = if p.c.done = true ∨ N = 193 then p.on (p.c.fail 2) else if p.c.atKey = true ∧ isText x = false then p.on (p.c.fail 8) else if (199 ≤ N ∧ N ≤ 201) ∨ (212 ≤ N ∧ N ≤ 216) then p.on (p.c.fail 8)
   else if N = 202 ∨ N = 203 then p.on (p.c.fail 6) else if isContainer x = true ∧ p.c.full = true then p.on (p.c.fail 4) else if N < 128 then p.on (p.c.value (.whole false N)) else if 224 ≤ N then p.on (p.c.value (.whole true (255 - N)))
   else if N < 160 then p.count (decide (N < 144)) (N % 16) else if N < 192 then p.on (p.c.length true (N % 32)) else if N = 192 then p.on (p.c.value .null) else if N ≤ 195 then p.on (p.c.value (.bool (decide (N = 195)))) else p.long x := by rw [hN]; rfl
 have HF := hhh (fun (u : World) (t : Own.Turn h h w u) e => cfail_any hi t.has e)
 have HF0 := hhh (fun e => cfail_any hi hw e)
 have HD := hhh (cdone_any hi hw)
 have HA := hhh (catkey_any hi hw hf.c)
 have HFu := hhh (fun (u : World) (t : Own.Turn h h w u) => cfull_any hi t.has)
 have HV := hhh (fun (u : World) (t : Own.Turn h h w u) v => cvalue_any hi t.has hf.c hn v)
 have HLe := hhh (fun (u : World) (t : Own.Turn h h w u) m => clength_any hi t.has hf.c hn true m)
 have HCo := hhh (fun (u : World) (t : Own.Turn h h w u) pr m => pcount_any hi t.has hf.c hn pr m)
 have HLo := hhh (fun (u : World) (t : Own.Turn h h w u) g1 g2 g3 g4 => plong_any hi t.has x g1 g2 g3 g4)
 have HX0 := fun u => ptext_any x u
 have HK := hhh (fun u => pcontainer_any x u)
 have HXd : isText x = false := by unfold isText; simp; omega
 have HKd : isContainer x = ((decide (128 ≤ N) && decide (N ≤ 159)) || (decide (220 ≤ N) && decide (N ≤ 223))) := by rw [hN]; rfl
 rw [HXd] at HX0 HP0
 have HX := hhh HX0
 have HKh := hhh HKd
 have hltI : (N : Int) < 256 := by omega
 have HNl := hhh (show N < 256 by omega)
 have eA : bits .and .u8 (N : Int) 15 = (N : Int) % 16 := bits_mask .u8 8 (by decide) wraps_u8 4 (by decide) (N : Int) (by omega) (by omega)
 have eB : bits .and .u8 (N : Int) 31 = (N : Int) % 32 := bits_mask .u8 8 (by decide) wraps_u8 5 (by decide) (N : Int) (by omega) (by omega)
 obtain ⟨D, hD⟩ : ∃ D, D = 255 - N := ⟨_, rfl⟩
 have eX : bits .xor .u8 IntKind.u8.max (N : Int) = (D : Int) := by
  have := u8_not ⟨N, by omega⟩
  simp only at this
  show bits .xor .u8 255 (N : Int) = (D : Int)
  rw [this]
  omega
 have eW : IntKind.u64.wrap (D : Int) = (D : Int) := by rw [IntKind.wrap_u64]; omega
 rw [← hD] at HP0
 have HDl := hhh (show D < 256 by omega)
 clear hD
 have HPh := hhh HP0
 have HNb := hhh (show 144 ≤ N ∧ N ≤ 159 by omega)
 rw [← hN]
 rw [← hN] at HX HK HLo
 generalize p.item x = O at HPh ⊢
 generalize isContainer x = K at HKh HPh HK
 clear hi hw hf HP0 hN hn HXd HKd hlo hhi HX0
 have q0 : ((N : Int) == 193) = false := by rw [beq_eq_false_iff_ne]; have := HNb.out; omega
 go_enter Tryz.func147, Tryz.ntmps147
 go_wp2_with (fail)
 refine HD.out.mono ?_
 rintro e w1 ⟨rfl, rfl⟩
 cases hd : p.c.done
 case true =>
  have HP := hhh (HPh.out.trans (if_pos (.inl hd)))
  clear HPh hd
  go_wp2_with (fail)
  refine (HF0.out 2).mono ?_
  rintro e w4 ⟨v, hv, h4, rfl, hs, i4, t4⟩
  have HI4 := hhh i4
  have HT4 := hhh t4
  have HS4 := hhh hs
  clear i4 t4 hs
  go_wp2
  go_ret
  rw [HP.out]
  exact ⟨_, hv, h4, rfl, HS4.out, HI4.out, HT4.out⟩
 case false =>
  have HPd := hhh (HPh.out.trans (if_neg (by rw [hd]; first | (simp; done) | (have := HNb.out; simp; omega))))
  clear HPh hd
  go_wp2_with (fail)
  refine HA.out.mono ?_
  rintro e w2 ⟨rfl, t2⟩
  have T2 := hhh t2
  clear t2
  cases hk : p.c.atKey
  ·have HPk := hhh (HPd.out.trans (if_neg (by rw [hk]; simp)))
   clear HPd hk HX
   have a1 : ¬ (199 : Int) ≤ (N : Int) := by have := HNb.out; omega
   have a3 : ¬ (212 : Int) ≤ (N : Int) := by have := HNb.out; omega
   have a5 : ((N : Int) == 202) = false := by rw [beq_eq_false_iff_ne]; have := HNb.out; omega
   have a6 : ((N : Int) == 203) = false := by rw [beq_eq_false_iff_ne]; have := HNb.out; omega
   have a7 : ¬ (N : Int) < 128 := by have := HNb.out; omega
   have a8 : ¬ (224 : Int) ≤ (N : Int) := by have := HNb.out; omega
   have a9 : (N : Int) < 160 := by have := HNb.out; omega
   have b1 : ¬ (N : Int) < 144 := by have := HNb.out; omega
   have b1d : decide ((N : Int) < 144) = false := by rw [decide_eq_false_iff_not]; have := HNb.out; omega
   have HPl := hhh (HPk.out.trans (if_neg (by first | (have := HNb.out; omega) | trivial | (simp; done))))
   clear HPk
   have HPm := hhh (HPl.out.trans (if_neg (by first | (have := HNb.out; omega) | trivial | (simp; done))))
   clear HPl
   have hK : K = true := by rw [HKh.out]; have := HNb.out; first | (simp; done) | (simp; omega)
   rw [hK] at HK HPm
   clear hK HKh
   go_wp2_with (fail)
   refine (HK.out _).mono ?_
   rintro e w3 ⟨rfl, rfl⟩
   go_wp2_with (fail)
   refine (HFu.out _ T2.out).mono ?_
   rintro e w5 ⟨rfl, t5⟩
   have T5 := hhh (T2.out.trans t5)
   clear t5
   cases hu : p.c.full
   ·have HPn := hhh (HPm.out.trans (if_neg (by rw [hu]; simp)))
    clear HPm hu
    have e1 : ((N % 16 : Nat) : Int) = (N : Int) % 16 := by omega
    have HC1 := HCo.out _ T5.out false (N % 16)
    rw [e1] at HC1
    have HC2 := hhh HC1
    clear e1 HC1
    have HP := hhh (((HPn.out.trans (if_neg (by first | (have := HNb.out; omega) | trivial | (simp; done)))).trans (if_neg (by first | (have := HNb.out; omega) | trivial | (simp; done)))).trans ((if_pos (by first | (have := HNb.out; omega) | trivial | (simp; done))).trans (show _ = p.count false (N % 16) by rw [show decide (N < 144) = false by have := HNb.out; first | (simp; done) | (simp; omega)])))
    clear HPn HNb
    go_wp2_with (fail)
    refine (HC2.out).mono ?_
    rintro e w4 ⟨v, hv, h4, rfl, hs, i4, t4⟩
    have HI4 := hhh i4
    have HT4 := hhh t4
    have HS4 := hhh hs
    clear i4 t4 hs
    go_wp2
    go_ret
    rw [HP.out]
    exact ⟨_, hv, h4, rfl, HS4.out, HI4.out, T5.out.trans HT4.out⟩
   ·have HP := hhh (HPm.out.trans (if_pos (by rw [hu]; simp)))
    clear HPm hu HNb
    go_wp2_with (fail)
    refine (HF.out _ T5.out 4).mono ?_
    rintro e w4 ⟨v, hv, h4, rfl, hs, i4, t4⟩
    have HI4 := hhh i4
    have HT4 := hhh t4
    have HS4 := hhh hs
    clear i4 t4 hs
    go_wp2
    go_ret
    rw [HP.out]
    exact ⟨_, hv, h4, rfl, HS4.out, HI4.out, T5.out.trans HT4.out⟩
  ·go_wp2_with (fail)
   refine (HX.out _).mono ?_
   rintro e w3 ⟨rfl, rfl⟩
   have HP := hhh (HPd.out.trans (if_pos (by rw [hk]; simp)))
   clear HPd hk HX
   go_wp2_with (fail)
   refine (HF.out _ T2.out 8).mono ?_
   rintro e w4 ⟨v, hv, h4, rfl, hs, i4, t4⟩
   have HI4 := hhh i4
   have HT4 := hhh t4
   have HS4 := hhh hs
   clear i4 t4 hs
   go_wp2
   go_ret
   rw [HP.out]
   exact ⟨_, hv, h4, rfl, HS4.out, HI4.out, T2.out.trans HT4.out⟩
theorem pitem_160 {n : Nat} (hi : p.Is b h) (hw : Own.Has w h) (hf : p.Fits n) (hn : n ≤ 1000000) (x : UInt8) (hlo : 160 ≤ x.toNat) (hhi : x.toNat ≤ 191) :
  Calls Tryz.prog 147 #[.pointer (some ⟨b, 0, none⟩), .int .u8 (x.toNat : Int)] w (PinDoes (p.item x) b h w) := by
 obtain ⟨N, hN⟩ : ∃ N, N = x.toNat := ⟨_, rfl⟩
 have HP0 : p.item x = if p.c.done = true ∨ N = 193 then p.on (p.c.fail 2) else if p.c.atKey = true ∧ isText x = false then p.on (p.c.fail 8) else if (199 ≤ N ∧ N ≤ 201) ∨ (212 ≤ N ∧ N ≤ 216) then p.on (p.c.fail 8)
   else if N = 202 ∨ N = 203 then p.on (p.c.fail 6) else if isContainer x = true ∧ p.c.full = true then p.on (p.c.fail 4) else if N < 128 then p.on (p.c.value (.whole false N)) else if 224 ≤ N then p.on (p.c.value (.whole true (255 - N)))
   else if N < 160 then p.count (decide (N < 144)) (N % 16) else if N < 192 then p.on (p.c.length true (N % 32)) else if N = 192 then p.on (p.c.value .null) else if N ≤ 195 then p.on (p.c.value (.bool (decide (N = 195)))) else p.long x := by rw [hN]; rfl
 have HF := hhh (fun (u : World) (t : Own.Turn h h w u) e => cfail_any hi t.has e)
 have HF0 := hhh (fun e => cfail_any hi hw e)
 have HD := hhh (cdone_any hi hw)
 have HA := hhh (catkey_any hi hw hf.c)
 have HFu := hhh (fun (u : World) (t : Own.Turn h h w u) => cfull_any hi t.has)
 have HV := hhh (fun (u : World) (t : Own.Turn h h w u) v => cvalue_any hi t.has hf.c hn v)
 have HLe := hhh (fun (u : World) (t : Own.Turn h h w u) m => clength_any hi t.has hf.c hn true m)
 have HCo := hhh (fun (u : World) (t : Own.Turn h h w u) pr m => pcount_any hi t.has hf.c hn pr m)
 have HLo := hhh (fun (u : World) (t : Own.Turn h h w u) g1 g2 g3 g4 => plong_any hi t.has x g1 g2 g3 g4)
 have HX0 := fun u => ptext_any x u
 have HK := hhh (fun u => pcontainer_any x u)
 have HXd : isText x = true := by unfold isText; simp; omega
 have HKd : isContainer x = ((decide (128 ≤ N) && decide (N ≤ 159)) || (decide (220 ≤ N) && decide (N ≤ 223))) := by rw [hN]; rfl
 rw [HXd] at HX0 HP0
 have HX := hhh HX0
 have HKh := hhh HKd
 have hltI : (N : Int) < 256 := by omega
 have HNl := hhh (show N < 256 by omega)
 have eA : bits .and .u8 (N : Int) 15 = (N : Int) % 16 := bits_mask .u8 8 (by decide) wraps_u8 4 (by decide) (N : Int) (by omega) (by omega)
 have eB : bits .and .u8 (N : Int) 31 = (N : Int) % 32 := bits_mask .u8 8 (by decide) wraps_u8 5 (by decide) (N : Int) (by omega) (by omega)
 obtain ⟨D, hD⟩ : ∃ D, D = 255 - N := ⟨_, rfl⟩
 have eX : bits .xor .u8 IntKind.u8.max (N : Int) = (D : Int) := by
  have := u8_not ⟨N, by omega⟩
  simp only at this
  show bits .xor .u8 255 (N : Int) = (D : Int)
  rw [this]
  omega
 have eW : IntKind.u64.wrap (D : Int) = (D : Int) := by rw [IntKind.wrap_u64]; omega
 rw [← hD] at HP0
 have HDl := hhh (show D < 256 by omega)
 clear hD
 have HPh := hhh HP0
 have HNb := hhh (show 160 ≤ N ∧ N ≤ 191 by omega)
 rw [← hN]
 rw [← hN] at HX HK HLo
 generalize p.item x = O at HPh ⊢
 generalize isContainer x = K at HKh HPh HK
 clear hi hw hf HP0 hN hn HXd HKd hlo hhi HX0
 have q0 : ((N : Int) == 193) = false := by rw [beq_eq_false_iff_ne]; have := HNb.out; omega
 go_enter Tryz.func147, Tryz.ntmps147
 go_wp2_with (fail)
 refine HD.out.mono ?_
 rintro e w1 ⟨rfl, rfl⟩
 cases hd : p.c.done
 case true =>
  have HP := hhh (HPh.out.trans (if_pos (.inl hd)))
  clear HPh hd
  go_wp2_with (fail)
  refine (HF0.out 2).mono ?_
  rintro e w4 ⟨v, hv, h4, rfl, hs, i4, t4⟩
  have HI4 := hhh i4
  have HT4 := hhh t4
  have HS4 := hhh hs
  clear i4 t4 hs
  go_wp2
  go_ret
  rw [HP.out]
  exact ⟨_, hv, h4, rfl, HS4.out, HI4.out, HT4.out⟩
 case false =>
  have HPd := hhh (HPh.out.trans (if_neg (by rw [hd]; first | (simp; done) | (have := HNb.out; simp; omega))))
  clear HPh hd
  go_wp2_with (fail)
  refine HA.out.mono ?_
  rintro e w2 ⟨rfl, t2⟩
  have T2 := hhh t2
  clear t2
  cases hk : p.c.atKey
  ·have HPk := hhh (HPd.out.trans (if_neg (by rw [hk]; simp)))
   clear HPd hk HX
   have a1 : ¬ (199 : Int) ≤ (N : Int) := by have := HNb.out; omega
   have a3 : ¬ (212 : Int) ≤ (N : Int) := by have := HNb.out; omega
   have a5 : ((N : Int) == 202) = false := by rw [beq_eq_false_iff_ne]; have := HNb.out; omega
   have a6 : ((N : Int) == 203) = false := by rw [beq_eq_false_iff_ne]; have := HNb.out; omega
   have a7 : ¬ (N : Int) < 128 := by have := HNb.out; omega
   have a8 : ¬ (224 : Int) ≤ (N : Int) := by have := HNb.out; omega
   have a9 : ¬ (N : Int) < 160 := by have := HNb.out; omega
   have b2 : (N : Int) < 192 := by have := HNb.out; omega
   have HPl := hhh (HPk.out.trans (if_neg (by first | (have := HNb.out; omega) | trivial | (simp; done))))
   clear HPk
   have HPm := hhh (HPl.out.trans (if_neg (by first | (have := HNb.out; omega) | trivial | (simp; done))))
   clear HPl
   have hK : K = false := by rw [HKh.out]; have := HNb.out; first | (simp; done) | (simp; omega)
   rw [hK] at HK HPm
   clear hK HKh
   go_wp2_with (fail)
   refine (HK.out _).mono ?_
   rintro e w3 ⟨rfl, rfl⟩
   have HPn := hhh (HPm.out.trans (if_neg (by simp)))
   clear HPm
   have e1 : ((N % 32 : Nat) : Int) = (N : Int) % 32 := by omega
   have HC1 := HLe.out _ T2.out (N % 32)
   rw [e1] at HC1
   have HC2 := hhh HC1
   clear e1 HC1
   have HP := hhh ((((HPn.out.trans (if_neg (by first | (have := HNb.out; omega) | trivial | (simp; done)))).trans (if_neg (by first | (have := HNb.out; omega) | trivial | (simp; done)))).trans (if_neg (by first | (have := HNb.out; omega) | trivial | (simp; done)))).trans (if_pos (by first | (have := HNb.out; omega) | trivial | (simp; done))))
   clear HPn HNb
   go_wp2_with (fail)
   refine (HC2.out).mono ?_
   rintro e w4 ⟨v, hv, h4, rfl, hs, i4, t4⟩
   have HI4 := hhh i4
   have HT4 := hhh t4
   have HS4 := hhh hs
   clear i4 t4 hs
   go_wp2
   go_ret
   rw [HP.out]
   exact ⟨_, hv, h4, rfl, HS4.out, HI4.out, T2.out.trans HT4.out⟩
  ·go_wp2_with (fail)
   refine (HX.out _).mono ?_
   rintro e w3 ⟨rfl, rfl⟩
   have HPk := hhh (HPd.out.trans (if_neg (by simp)))
   clear HPd hk HX
   have a1 : ¬ (199 : Int) ≤ (N : Int) := by have := HNb.out; omega
   have a3 : ¬ (212 : Int) ≤ (N : Int) := by have := HNb.out; omega
   have a5 : ((N : Int) == 202) = false := by rw [beq_eq_false_iff_ne]; have := HNb.out; omega
   have a6 : ((N : Int) == 203) = false := by rw [beq_eq_false_iff_ne]; have := HNb.out; omega
   have a7 : ¬ (N : Int) < 128 := by have := HNb.out; omega
   have a8 : ¬ (224 : Int) ≤ (N : Int) := by have := HNb.out; omega
   have a9 : ¬ (N : Int) < 160 := by have := HNb.out; omega
   have b2 : (N : Int) < 192 := by have := HNb.out; omega
   have HPl := hhh (HPk.out.trans (if_neg (by first | (have := HNb.out; omega) | trivial | (simp; done))))
   clear HPk
   have HPm := hhh (HPl.out.trans (if_neg (by first | (have := HNb.out; omega) | trivial | (simp; done))))
   clear HPl
   have hK : K = false := by rw [HKh.out]; have := HNb.out; first | (simp; done) | (simp; omega)
   rw [hK] at HK HPm
   clear hK HKh
   go_wp2_with (fail)
   refine (HK.out _).mono ?_
   rintro e w3 ⟨rfl, rfl⟩
   have HPn := hhh (HPm.out.trans (if_neg (by simp)))
   clear HPm
   have e1 : ((N % 32 : Nat) : Int) = (N : Int) % 32 := by omega
   have HC1 := HLe.out _ T2.out (N % 32)
   rw [e1] at HC1
   have HC2 := hhh HC1
   clear e1 HC1
   have HP := hhh ((((HPn.out.trans (if_neg (by first | (have := HNb.out; omega) | trivial | (simp; done)))).trans (if_neg (by first | (have := HNb.out; omega) | trivial | (simp; done)))).trans (if_neg (by first | (have := HNb.out; omega) | trivial | (simp; done)))).trans (if_pos (by first | (have := HNb.out; omega) | trivial | (simp; done))))
   clear HPn HNb
   go_wp2_with (fail)
   refine (HC2.out).mono ?_
   rintro e w4 ⟨v, hv, h4, rfl, hs, i4, t4⟩
   have HI4 := hhh i4
   have HT4 := hhh t4
   have HS4 := hhh hs
   clear i4 t4 hs
   go_wp2
   go_ret
   rw [HP.out]
   exact ⟨_, hv, h4, rfl, HS4.out, HI4.out, T2.out.trans HT4.out⟩
theorem pitem_192 {n : Nat} (hi : p.Is b h) (hw : Own.Has w h) (hf : p.Fits n) (hn : n ≤ 1000000) (x : UInt8) (hlo : 192 ≤ x.toNat) (hhi : x.toNat ≤ 192) :
  Calls Tryz.prog 147 #[.pointer (some ⟨b, 0, none⟩), .int .u8 (x.toNat : Int)] w (PinDoes (p.item x) b h w) := by
 obtain ⟨N, hN⟩ : ∃ N, N = x.toNat := ⟨_, rfl⟩
 have HP0 : p.item x = if p.c.done = true ∨ N = 193 then p.on (p.c.fail 2) else if p.c.atKey = true ∧ isText x = false then p.on (p.c.fail 8) else if (199 ≤ N ∧ N ≤ 201) ∨ (212 ≤ N ∧ N ≤ 216) then p.on (p.c.fail 8)
   else if N = 202 ∨ N = 203 then p.on (p.c.fail 6) else if isContainer x = true ∧ p.c.full = true then p.on (p.c.fail 4) else if N < 128 then p.on (p.c.value (.whole false N)) else if 224 ≤ N then p.on (p.c.value (.whole true (255 - N)))
   else if N < 160 then p.count (decide (N < 144)) (N % 16) else if N < 192 then p.on (p.c.length true (N % 32)) else if N = 192 then p.on (p.c.value .null) else if N ≤ 195 then p.on (p.c.value (.bool (decide (N = 195)))) else p.long x := by rw [hN]; rfl
 have HF := hhh (fun (u : World) (t : Own.Turn h h w u) e => cfail_any hi t.has e)
 have HF0 := hhh (fun e => cfail_any hi hw e)
 have HD := hhh (cdone_any hi hw)
 have HA := hhh (catkey_any hi hw hf.c)
 have HFu := hhh (fun (u : World) (t : Own.Turn h h w u) => cfull_any hi t.has)
 have HV := hhh (fun (u : World) (t : Own.Turn h h w u) v => cvalue_any hi t.has hf.c hn v)
 have HLe := hhh (fun (u : World) (t : Own.Turn h h w u) m => clength_any hi t.has hf.c hn true m)
 have HCo := hhh (fun (u : World) (t : Own.Turn h h w u) pr m => pcount_any hi t.has hf.c hn pr m)
 have HLo := hhh (fun (u : World) (t : Own.Turn h h w u) g1 g2 g3 g4 => plong_any hi t.has x g1 g2 g3 g4)
 have HX0 := fun u => ptext_any x u
 have HK := hhh (fun u => pcontainer_any x u)
 have HXd : isText x = false := by unfold isText; simp; omega
 have HKd : isContainer x = ((decide (128 ≤ N) && decide (N ≤ 159)) || (decide (220 ≤ N) && decide (N ≤ 223))) := by rw [hN]; rfl
 rw [HXd] at HX0 HP0
 have HX := hhh HX0
 have HKh := hhh HKd
 have hltI : (N : Int) < 256 := by omega
 have HNl := hhh (show N < 256 by omega)
 have eA : bits .and .u8 (N : Int) 15 = (N : Int) % 16 := bits_mask .u8 8 (by decide) wraps_u8 4 (by decide) (N : Int) (by omega) (by omega)
 have eB : bits .and .u8 (N : Int) 31 = (N : Int) % 32 := bits_mask .u8 8 (by decide) wraps_u8 5 (by decide) (N : Int) (by omega) (by omega)
 obtain ⟨D, hD⟩ : ∃ D, D = 255 - N := ⟨_, rfl⟩
 have eX : bits .xor .u8 IntKind.u8.max (N : Int) = (D : Int) := by
  have := u8_not ⟨N, by omega⟩
  simp only at this
  show bits .xor .u8 255 (N : Int) = (D : Int)
  rw [this]
  omega
 have eW : IntKind.u64.wrap (D : Int) = (D : Int) := by rw [IntKind.wrap_u64]; omega
 rw [← hD] at HP0
 have HDl := hhh (show D < 256 by omega)
 clear hD
 have HPh := hhh HP0
 have HNb := hhh (show 192 ≤ N ∧ N ≤ 192 by omega)
 rw [← hN]
 rw [← hN] at HX HK HLo
 generalize p.item x = O at HPh ⊢
 generalize isContainer x = K at HKh HPh HK
 clear hi hw hf HP0 hN hn HXd HKd hlo hhi HX0
 clear eA eB eX eW hltI HNl
 obtain rfl : N = 192 := by have := HNb.out; omega
 simp only [Int.cast_ofNat_Int] at HX HK HLo ⊢
 go_enter Tryz.func147, Tryz.ntmps147
 go_wp2_with (fail)
 refine HD.out.mono ?_
 rintro e w1 ⟨rfl, rfl⟩
 cases hd : p.c.done
 case true =>
  have HP := hhh (HPh.out.trans (if_pos (.inl hd)))
  clear HPh hd
  go_wp2_with (fail)
  refine (HF0.out 2).mono ?_
  rintro e w4 ⟨v, hv, h4, rfl, hs, i4, t4⟩
  have HI4 := hhh i4
  have HT4 := hhh t4
  have HS4 := hhh hs
  clear i4 t4 hs
  go_wp2
  go_ret
  rw [HP.out]
  exact ⟨_, hv, h4, rfl, HS4.out, HI4.out, HT4.out⟩
 case false =>
  have HPd := hhh (HPh.out.trans (if_neg (by rw [hd]; first | (simp; done) | (have := HNb.out; simp; omega))))
  clear HPh hd
  go_wp2_with (fail)
  refine HA.out.mono ?_
  rintro e w2 ⟨rfl, t2⟩
  have T2 := hhh t2
  clear t2
  cases hk : p.c.atKey
  ·have HPk := hhh (HPd.out.trans (if_neg (by rw [hk]; simp)))
   clear HPd hk HX
   have HPl := hhh (HPk.out.trans (if_neg (by first | (have := HNb.out; omega) | trivial | (simp; done))))
   clear HPk
   have HPm := hhh (HPl.out.trans (if_neg (by first | (have := HNb.out; omega) | trivial | (simp; done))))
   clear HPl
   have hK : K = false := by rw [HKh.out]; have := HNb.out; first | (simp; done) | (simp; omega)
   rw [hK] at HK HPm
   clear hK HKh
   go_wp2_with (fail)
   refine (HK.out _).mono ?_
   rintro e w3 ⟨rfl, rfl⟩
   have HPn := hhh (HPm.out.trans (if_neg (by simp)))
   clear HPm
   have HP := hhh (((((HPn.out.trans (if_neg (by first | (have := HNb.out; omega) | trivial | (simp; done)))).trans (if_neg (by first | (have := HNb.out; omega) | trivial | (simp; done)))).trans (if_neg (by first | (have := HNb.out; omega) | trivial | (simp; done)))).trans (if_neg (by first | (have := HNb.out; omega) | trivial | (simp; done)))).trans (if_pos (by first | (have := HNb.out; omega) | trivial | (simp; done))))
   clear HPn HNb
   go_wp2_with (fail)
   refine (HV.out _ T2.out .null).mono ?_
   rintro e w4 ⟨v, hv, h4, rfl, hs, i4, t4⟩
   have HI4 := hhh i4
   have HT4 := hhh t4
   have HS4 := hhh hs
   clear i4 t4 hs
   go_wp2
   go_ret
   rw [HP.out]
   exact ⟨_, hv, h4, rfl, HS4.out, HI4.out, T2.out.trans HT4.out⟩
  ·go_wp2_with (fail)
   refine (HX.out _).mono ?_
   rintro e w3 ⟨rfl, rfl⟩
   have HP := hhh (HPd.out.trans (if_pos (by rw [hk]; simp)))
   clear HPd hk HX
   go_wp2_with (fail)
   refine (HF.out _ T2.out 8).mono ?_
   rintro e w4 ⟨v, hv, h4, rfl, hs, i4, t4⟩
   have HI4 := hhh i4
   have HT4 := hhh t4
   have HS4 := hhh hs
   clear i4 t4 hs
   go_wp2
   go_ret
   rw [HP.out]
   exact ⟨_, hv, h4, rfl, HS4.out, HI4.out, T2.out.trans HT4.out⟩
end
end Pip
end
section
open Go.RowKit
open Json (Part)
namespace Pip
section
variable {p : Pin} {b : Nat} {h : Own.Heap} {w : World}
theorem pitem_193 {n : Nat} (hi : p.Is b h) (hw : Own.Has w h) (hf : p.Fits n) (hn : n ≤ 1000000) (x : UInt8) (hlo : 193 ≤ x.toNat) (hhi : x.toNat ≤ 193) :
  Calls Tryz.prog 147 #[.pointer (some ⟨b, 0, none⟩), .int .u8 (x.toNat : Int)] w (PinDoes (p.item x) b h w) := by
 obtain ⟨N, hN⟩ : ∃ N, N = x.toNat := ⟨_, rfl⟩
 have HP0 : p.item x = if p.c.done = true ∨ N = 193 then p.on (p.c.fail 2) else if p.c.atKey = true ∧ isText x = false then p.on (p.c.fail 8) else if (199 ≤ N ∧ N ≤ 201) ∨ (212 ≤ N ∧ N ≤ 216) then p.on (p.c.fail 8)
   else if N = 202 ∨ N = 203 then p.on (p.c.fail 6) else if isContainer x = true ∧ p.c.full = true then p.on (p.c.fail 4) else if N < 128 then p.on (p.c.value (.whole false N)) else if 224 ≤ N then p.on (p.c.value (.whole true (255 - N)))
   else if N < 160 then p.count (decide (N < 144)) (N % 16) else if N < 192 then p.on (p.c.length true (N % 32)) else if N = 192 then p.on (p.c.value .null) else if N ≤ 195 then p.on (p.c.value (.bool (decide (N = 195)))) else p.long x := by rw [hN]; rfl
 have HF := hhh (fun (u : World) (t : Own.Turn h h w u) e => cfail_any hi t.has e)
 have HF0 := hhh (fun e => cfail_any hi hw e)
 have HD := hhh (cdone_any hi hw)
 have HA := hhh (catkey_any hi hw hf.c)
 have HFu := hhh (fun (u : World) (t : Own.Turn h h w u) => cfull_any hi t.has)
 have HV := hhh (fun (u : World) (t : Own.Turn h h w u) v => cvalue_any hi t.has hf.c hn v)
 have HLe := hhh (fun (u : World) (t : Own.Turn h h w u) m => clength_any hi t.has hf.c hn true m)
 have HCo := hhh (fun (u : World) (t : Own.Turn h h w u) pr m => pcount_any hi t.has hf.c hn pr m)
 have HLo := hhh (fun (u : World) (t : Own.Turn h h w u) g1 g2 g3 g4 => plong_any hi t.has x g1 g2 g3 g4)
 have HX0 := fun u => ptext_any x u
 have HK := hhh (fun u => pcontainer_any x u)
 have HXd : isText x = false := by unfold isText; simp; omega
 have HKd : isContainer x = ((decide (128 ≤ N) && decide (N ≤ 159)) || (decide (220 ≤ N) && decide (N ≤ 223))) := by rw [hN]; rfl
 rw [HXd] at HX0 HP0
 have HX := hhh HX0
 have HKh := hhh HKd
 have hltI : (N : Int) < 256 := by omega
 have HNl := hhh (show N < 256 by omega)
 have eA : bits .and .u8 (N : Int) 15 = (N : Int) % 16 := bits_mask .u8 8 (by decide) wraps_u8 4 (by decide) (N : Int) (by omega) (by omega)
 have eB : bits .and .u8 (N : Int) 31 = (N : Int) % 32 := bits_mask .u8 8 (by decide) wraps_u8 5 (by decide) (N : Int) (by omega) (by omega)
 obtain ⟨D, hD⟩ : ∃ D, D = 255 - N := ⟨_, rfl⟩
 have eX : bits .xor .u8 IntKind.u8.max (N : Int) = (D : Int) := by
  have := u8_not ⟨N, by omega⟩
  simp only at this
  show bits .xor .u8 255 (N : Int) = (D : Int)
  rw [this]
  omega
 have eW : IntKind.u64.wrap (D : Int) = (D : Int) := by rw [IntKind.wrap_u64]; omega
 rw [← hD] at HP0
 have HDl := hhh (show D < 256 by omega)
 clear hD
 have HPh := hhh HP0
 have HNb := hhh (show 193 ≤ N ∧ N ≤ 193 by omega)
 rw [← hN]
 rw [← hN] at HX HK HLo
 generalize p.item x = O at HPh ⊢
 generalize isContainer x = K at HKh HPh HK
 clear hi hw hf HP0 hN hn HXd HKd hlo hhi HX0
 clear eA eB eX eW hltI HNl
 obtain rfl : N = 193 := by have := HNb.out; omega
 simp only [Int.cast_ofNat_Int] at HX HK HLo ⊢
 go_enter Tryz.func147, Tryz.ntmps147
 go_wp2_with (fail)
 refine HD.out.mono ?_
 rintro e w1 ⟨rfl, rfl⟩
 cases hd : p.c.done
 case true =>
  have HP := hhh (HPh.out.trans (if_pos (.inl hd)))
  clear HPh hd
  go_wp2_with (fail)
  refine (HF0.out 2).mono ?_
  rintro e w4 ⟨v, hv, h4, rfl, hs, i4, t4⟩
  have HI4 := hhh i4
  have HT4 := hhh t4
  have HS4 := hhh hs
  clear i4 t4 hs
  go_wp2
  go_ret
  rw [HP.out]
  exact ⟨_, hv, h4, rfl, HS4.out, HI4.out, HT4.out⟩
 case false =>
  have HP := hhh (HPh.out.trans (if_pos (.inr (by first | (have := HNb.out; omega) | trivial | (simp; done)))))
  clear HPh hd
  go_wp2_with (fail)
  refine (HF0.out 2).mono ?_
  rintro e w4 ⟨v, hv, h4, rfl, hs, i4, t4⟩
  have HI4 := hhh i4
  have HT4 := hhh t4
  have HS4 := hhh hs
  clear i4 t4 hs
  go_wp2
  go_ret
  rw [HP.out]
  exact ⟨_, hv, h4, rfl, HS4.out, HI4.out, HT4.out⟩
theorem pitem_194 {n : Nat} (hi : p.Is b h) (hw : Own.Has w h) (hf : p.Fits n) (hn : n ≤ 1000000) (x : UInt8) (hlo : 194 ≤ x.toNat) (hhi : x.toNat ≤ 194) :
  Calls Tryz.prog 147 #[.pointer (some ⟨b, 0, none⟩), .int .u8 (x.toNat : Int)] w (PinDoes (p.item x) b h w) := by
 obtain ⟨N, hN⟩ : ∃ N, N = x.toNat := ⟨_, rfl⟩
 have HP0 : p.item x = if p.c.done = true ∨ N = 193 then p.on (p.c.fail 2) else if p.c.atKey = true ∧ isText x = false then p.on (p.c.fail 8) else if (199 ≤ N ∧ N ≤ 201) ∨ (212 ≤ N ∧ N ≤ 216) then p.on (p.c.fail 8)
   else if N = 202 ∨ N = 203 then p.on (p.c.fail 6) else if isContainer x = true ∧ p.c.full = true then p.on (p.c.fail 4) else if N < 128 then p.on (p.c.value (.whole false N)) else if 224 ≤ N then p.on (p.c.value (.whole true (255 - N)))
   else if N < 160 then p.count (decide (N < 144)) (N % 16) else if N < 192 then p.on (p.c.length true (N % 32)) else if N = 192 then p.on (p.c.value .null) else if N ≤ 195 then p.on (p.c.value (.bool (decide (N = 195)))) else p.long x := by rw [hN]; rfl
 have HF := hhh (fun (u : World) (t : Own.Turn h h w u) e => cfail_any hi t.has e)
 have HF0 := hhh (fun e => cfail_any hi hw e)
 have HD := hhh (cdone_any hi hw)
 have HA := hhh (catkey_any hi hw hf.c)
 have HFu := hhh (fun (u : World) (t : Own.Turn h h w u) => cfull_any hi t.has)
 have HV := hhh (fun (u : World) (t : Own.Turn h h w u) v => cvalue_any hi t.has hf.c hn v)
 have HLe := hhh (fun (u : World) (t : Own.Turn h h w u) m => clength_any hi t.has hf.c hn true m)
 have HCo := hhh (fun (u : World) (t : Own.Turn h h w u) pr m => pcount_any hi t.has hf.c hn pr m)
 have HLo := hhh (fun (u : World) (t : Own.Turn h h w u) g1 g2 g3 g4 => plong_any hi t.has x g1 g2 g3 g4)
 have HX0 := fun u => ptext_any x u
 have HK := hhh (fun u => pcontainer_any x u)
 have HXd : isText x = false := by unfold isText; simp; omega
 have HKd : isContainer x = ((decide (128 ≤ N) && decide (N ≤ 159)) || (decide (220 ≤ N) && decide (N ≤ 223))) := by rw [hN]; rfl
 rw [HXd] at HX0 HP0
 have HX := hhh HX0
 have HKh := hhh HKd
 have hltI : (N : Int) < 256 := by omega
 have HNl := hhh (show N < 256 by omega)
 have eA : bits .and .u8 (N : Int) 15 = (N : Int) % 16 := bits_mask .u8 8 (by decide) wraps_u8 4 (by decide) (N : Int) (by omega) (by omega)
 have eB : bits .and .u8 (N : Int) 31 = (N : Int) % 32 := bits_mask .u8 8 (by decide) wraps_u8 5 (by decide) (N : Int) (by omega) (by omega)
 obtain ⟨D, hD⟩ : ∃ D, D = 255 - N := ⟨_, rfl⟩
 have eX : bits .xor .u8 IntKind.u8.max (N : Int) = (D : Int) := by
  have := u8_not ⟨N, by omega⟩
  simp only at this
  show bits .xor .u8 255 (N : Int) = (D : Int)
  rw [this]
  omega
 have eW : IntKind.u64.wrap (D : Int) = (D : Int) := by rw [IntKind.wrap_u64]; omega
 rw [← hD] at HP0
 have HDl := hhh (show D < 256 by omega)
 clear hD
 have HPh := hhh HP0
 have HNb := hhh (show 194 ≤ N ∧ N ≤ 194 by omega)
 rw [← hN]
 rw [← hN] at HX HK HLo
 generalize p.item x = O at HPh ⊢
 generalize isContainer x = K at HKh HPh HK
 clear hi hw hf HP0 hN hn HXd HKd hlo hhi HX0
 clear eA eB eX eW hltI HNl
 obtain rfl : N = 194 := by have := HNb.out; omega
 simp only [Int.cast_ofNat_Int] at HX HK HLo ⊢
 go_enter Tryz.func147, Tryz.ntmps147
 go_wp2_with (fail)
 refine HD.out.mono ?_
 rintro e w1 ⟨rfl, rfl⟩
 cases hd : p.c.done
 case true =>
  have HP := hhh (HPh.out.trans (if_pos (.inl hd)))
  clear HPh hd
  go_wp2_with (fail)
  refine (HF0.out 2).mono ?_
  rintro e w4 ⟨v, hv, h4, rfl, hs, i4, t4⟩
  have HI4 := hhh i4
  have HT4 := hhh t4
  have HS4 := hhh hs
  clear i4 t4 hs
  go_wp2
  go_ret
  rw [HP.out]
  exact ⟨_, hv, h4, rfl, HS4.out, HI4.out, HT4.out⟩
 case false =>
  have HPd := hhh (HPh.out.trans (if_neg (by rw [hd]; first | (simp; done) | (have := HNb.out; simp; omega))))
  clear HPh hd
  go_wp2_with (fail)
  refine HA.out.mono ?_
  rintro e w2 ⟨rfl, t2⟩
  have T2 := hhh t2
  clear t2
  cases hk : p.c.atKey
  ·have HPk := hhh (HPd.out.trans (if_neg (by rw [hk]; simp)))
   clear HPd hk HX
   have HPl := hhh (HPk.out.trans (if_neg (by first | (have := HNb.out; omega) | trivial | (simp; done))))
   clear HPk
   have HPm := hhh (HPl.out.trans (if_neg (by first | (have := HNb.out; omega) | trivial | (simp; done))))
   clear HPl
   have hK : K = false := by rw [HKh.out]; have := HNb.out; first | (simp; done) | (simp; omega)
   rw [hK] at HK HPm
   clear hK HKh
   go_wp2_with (fail)
   refine (HK.out _).mono ?_
   rintro e w3 ⟨rfl, rfl⟩
   have HPn := hhh (HPm.out.trans (if_neg (by simp)))
   clear HPm
   have HP := hhh ((((((HPn.out.trans (if_neg (by first | (have := HNb.out; omega) | trivial | (simp; done)))).trans (if_neg (by first | (have := HNb.out; omega) | trivial | (simp; done)))).trans (if_neg (by first | (have := HNb.out; omega) | trivial | (simp; done)))).trans (if_neg (by first | (have := HNb.out; omega) | trivial | (simp; done)))).trans (if_neg (by first | (have := HNb.out; omega) | trivial | (simp; done)))).trans ((if_pos (by first | (have := HNb.out; omega) | trivial | (simp; done))).trans (show _ = p.on (p.c.value (.bool false)) by first | rfl | (simp; done) | rw [show decide (194 = 195) = false by have := HNb.out; first | (simp; done) | (simp; omega)])))
   clear HPn HNb
   go_wp2_with (fail)
   refine (HV.out _ T2.out (.bool false)).mono ?_
   rintro e w4 ⟨v, hv, h4, rfl, hs, i4, t4⟩
   have HI4 := hhh i4
   have HT4 := hhh t4
   have HS4 := hhh hs
   clear i4 t4 hs
   go_wp2
   go_ret
   rw [HP.out]
   exact ⟨_, hv, h4, rfl, HS4.out, HI4.out, T2.out.trans HT4.out⟩
  ·go_wp2_with (fail)
   refine (HX.out _).mono ?_
   rintro e w3 ⟨rfl, rfl⟩
   have HP := hhh (HPd.out.trans (if_pos (by rw [hk]; simp)))
   clear HPd hk HX
   go_wp2_with (fail)
   refine (HF.out _ T2.out 8).mono ?_
   rintro e w4 ⟨v, hv, h4, rfl, hs, i4, t4⟩
   have HI4 := hhh i4
   have HT4 := hhh t4
   have HS4 := hhh hs
   clear i4 t4 hs
   go_wp2
   go_ret
   rw [HP.out]
   exact ⟨_, hv, h4, rfl, HS4.out, HI4.out, T2.out.trans HT4.out⟩
theorem pitem_195 {n : Nat} (hi : p.Is b h) (hw : Own.Has w h) (hf : p.Fits n) (hn : n ≤ 1000000) (x : UInt8) (hlo : 195 ≤ x.toNat) (hhi : x.toNat ≤ 195) :
  Calls Tryz.prog 147 #[.pointer (some ⟨b, 0, none⟩), .int .u8 (x.toNat : Int)] w (PinDoes (p.item x) b h w) := by
 obtain ⟨N, hN⟩ : ∃ N, N = x.toNat := ⟨_, rfl⟩
 have HP0 : p.item x = if p.c.done = true ∨ N = 193 then p.on (p.c.fail 2) else if p.c.atKey = true ∧ isText x = false then p.on (p.c.fail 8) else if (199 ≤ N ∧ N ≤ 201) ∨ (212 ≤ N ∧ N ≤ 216) then p.on (p.c.fail 8)
   else if N = 202 ∨ N = 203 then p.on (p.c.fail 6) else if isContainer x = true ∧ p.c.full = true then p.on (p.c.fail 4) else if N < 128 then p.on (p.c.value (.whole false N)) else if 224 ≤ N then p.on (p.c.value (.whole true (255 - N)))
   else if N < 160 then p.count (decide (N < 144)) (N % 16) else if N < 192 then p.on (p.c.length true (N % 32)) else if N = 192 then p.on (p.c.value .null) else if N ≤ 195 then p.on (p.c.value (.bool (decide (N = 195)))) else p.long x := by rw [hN]; rfl
 have HF := hhh (fun (u : World) (t : Own.Turn h h w u) e => cfail_any hi t.has e)
 have HF0 := hhh (fun e => cfail_any hi hw e)
 have HD := hhh (cdone_any hi hw)
 have HA := hhh (catkey_any hi hw hf.c)
 have HFu := hhh (fun (u : World) (t : Own.Turn h h w u) => cfull_any hi t.has)
 have HV := hhh (fun (u : World) (t : Own.Turn h h w u) v => cvalue_any hi t.has hf.c hn v)
 have HLe := hhh (fun (u : World) (t : Own.Turn h h w u) m => clength_any hi t.has hf.c hn true m)
 have HCo := hhh (fun (u : World) (t : Own.Turn h h w u) pr m => pcount_any hi t.has hf.c hn pr m)
 have HLo := hhh (fun (u : World) (t : Own.Turn h h w u) g1 g2 g3 g4 => plong_any hi t.has x g1 g2 g3 g4)
 have HX0 := fun u => ptext_any x u
 have HK := hhh (fun u => pcontainer_any x u)
 have HXd : isText x = false := by unfold isText; simp; omega
 have HKd : isContainer x = ((decide (128 ≤ N) && decide (N ≤ 159)) || (decide (220 ≤ N) && decide (N ≤ 223))) := by rw [hN]; rfl
 rw [HXd] at HX0 HP0
 have HX := hhh HX0
 have HKh := hhh HKd
 have hltI : (N : Int) < 256 := by omega
 have HNl := hhh (show N < 256 by omega)
 have eA : bits .and .u8 (N : Int) 15 = (N : Int) % 16 := bits_mask .u8 8 (by decide) wraps_u8 4 (by decide) (N : Int) (by omega) (by omega)
 have eB : bits .and .u8 (N : Int) 31 = (N : Int) % 32 := bits_mask .u8 8 (by decide) wraps_u8 5 (by decide) (N : Int) (by omega) (by omega)
 obtain ⟨D, hD⟩ : ∃ D, D = 255 - N := ⟨_, rfl⟩
 have eX : bits .xor .u8 IntKind.u8.max (N : Int) = (D : Int) := by
  have := u8_not ⟨N, by omega⟩
  simp only at this
  show bits .xor .u8 255 (N : Int) = (D : Int)
  rw [this]
  omega
 have eW : IntKind.u64.wrap (D : Int) = (D : Int) := by rw [IntKind.wrap_u64]; omega
 rw [← hD] at HP0
 have HDl := hhh (show D < 256 by omega)
 clear hD
 have HPh := hhh HP0
 have HNb := hhh (show 195 ≤ N ∧ N ≤ 195 by omega)
 rw [← hN]
 rw [← hN] at HX HK HLo
 generalize p.item x = O at HPh ⊢
 generalize isContainer x = K at HKh HPh HK
 clear hi hw hf HP0 hN hn HXd HKd hlo hhi HX0
 clear eA eB eX eW hltI HNl
 obtain rfl : N = 195 := by have := HNb.out; omega
 simp only [Int.cast_ofNat_Int] at HX HK HLo ⊢
 go_enter Tryz.func147, Tryz.ntmps147
 go_wp2_with (fail)
 refine HD.out.mono ?_
 rintro e w1 ⟨rfl, rfl⟩
 cases hd : p.c.done
 case true =>
  have HP := hhh (HPh.out.trans (if_pos (.inl hd)))
  clear HPh hd
  go_wp2_with (fail)
  refine (HF0.out 2).mono ?_
  rintro e w4 ⟨v, hv, h4, rfl, hs, i4, t4⟩
  have HI4 := hhh i4
  have HT4 := hhh t4
  have HS4 := hhh hs
  clear i4 t4 hs
  go_wp2
  go_ret
  rw [HP.out]
  exact ⟨_, hv, h4, rfl, HS4.out, HI4.out, HT4.out⟩
 case false =>
  have HPd := hhh (HPh.out.trans (if_neg (by rw [hd]; first | (simp; done) | (have := HNb.out; simp; omega))))
  clear HPh hd
  go_wp2_with (fail)
  refine HA.out.mono ?_
  rintro e w2 ⟨rfl, t2⟩
  have T2 := hhh t2
  clear t2
  cases hk : p.c.atKey
  ·have HPk := hhh (HPd.out.trans (if_neg (by rw [hk]; simp)))
   clear HPd hk HX
   have HPl := hhh (HPk.out.trans (if_neg (by first | (have := HNb.out; omega) | trivial | (simp; done))))
   clear HPk
   have HPm := hhh (HPl.out.trans (if_neg (by first | (have := HNb.out; omega) | trivial | (simp; done))))
   clear HPl
   have hK : K = false := by rw [HKh.out]; have := HNb.out; first | (simp; done) | (simp; omega)
   rw [hK] at HK HPm
   clear hK HKh
   go_wp2_with (fail)
   refine (HK.out _).mono ?_
   rintro e w3 ⟨rfl, rfl⟩
   have HPn := hhh (HPm.out.trans (if_neg (by simp)))
   clear HPm
   have HP := hhh ((((((HPn.out.trans (if_neg (by first | (have := HNb.out; omega) | trivial | (simp; done)))).trans (if_neg (by first | (have := HNb.out; omega) | trivial | (simp; done)))).trans (if_neg (by first | (have := HNb.out; omega) | trivial | (simp; done)))).trans (if_neg (by first | (have := HNb.out; omega) | trivial | (simp; done)))).trans (if_neg (by first | (have := HNb.out; omega) | trivial | (simp; done)))).trans ((if_pos (by first | (have := HNb.out; omega) | trivial | (simp; done))).trans (show _ = p.on (p.c.value (.bool true)) by first | rfl | (simp; done) | rw [show decide (195 = 195) = true by have := HNb.out; first | (simp; done) | (simp; omega)])))
   clear HPn HNb
   go_wp2_with (fail)
   refine (HV.out _ T2.out (.bool true)).mono ?_
   rintro e w4 ⟨v, hv, h4, rfl, hs, i4, t4⟩
   have HI4 := hhh i4
   have HT4 := hhh t4
   have HS4 := hhh hs
   clear i4 t4 hs
   go_wp2
   go_ret
   rw [HP.out]
   exact ⟨_, hv, h4, rfl, HS4.out, HI4.out, T2.out.trans HT4.out⟩
  ·go_wp2_with (fail)
   refine (HX.out _).mono ?_
   rintro e w3 ⟨rfl, rfl⟩
   have HP := hhh (HPd.out.trans (if_pos (by rw [hk]; simp)))
   clear HPd hk HX
   go_wp2_with (fail)
   refine (HF.out _ T2.out 8).mono ?_
   rintro e w4 ⟨v, hv, h4, rfl, hs, i4, t4⟩
   have HI4 := hhh i4
   have HT4 := hhh t4
   have HS4 := hhh hs
   clear i4 t4 hs
   go_wp2
   go_ret
   rw [HP.out]
   exact ⟨_, hv, h4, rfl, HS4.out, HI4.out, T2.out.trans HT4.out⟩
theorem pitem_196 {n : Nat} (hi : p.Is b h) (hw : Own.Has w h) (hf : p.Fits n) (hn : n ≤ 1000000) (x : UInt8) (hlo : 196 ≤ x.toNat) (hhi : x.toNat ≤ 198) :
  Calls Tryz.prog 147 #[.pointer (some ⟨b, 0, none⟩), .int .u8 (x.toNat : Int)] w (PinDoes (p.item x) b h w) := by
 obtain ⟨N, hN⟩ : ∃ N, N = x.toNat := ⟨_, rfl⟩
 have HP0 : p.item x = if p.c.done = true ∨ N = 193 then p.on (p.c.fail 2) else if p.c.atKey = true ∧ isText x = false then p.on (p.c.fail 8) else if (199 ≤ N ∧ N ≤ 201) ∨ (212 ≤ N ∧ N ≤ 216) then p.on (p.c.fail 8)
   else if N = 202 ∨ N = 203 then p.on (p.c.fail 6) else if isContainer x = true ∧ p.c.full = true then p.on (p.c.fail 4) else if N < 128 then p.on (p.c.value (.whole false N)) else if 224 ≤ N then p.on (p.c.value (.whole true (255 - N)))
   else if N < 160 then p.count (decide (N < 144)) (N % 16) else if N < 192 then p.on (p.c.length true (N % 32)) else if N = 192 then p.on (p.c.value .null) else if N ≤ 195 then p.on (p.c.value (.bool (decide (N = 195)))) else p.long x := by rw [hN]; rfl
 have HF := hhh (fun (u : World) (t : Own.Turn h h w u) e => cfail_any hi t.has e)
 have HF0 := hhh (fun e => cfail_any hi hw e)
 have HD := hhh (cdone_any hi hw)
 have HA := hhh (catkey_any hi hw hf.c)
 have HFu := hhh (fun (u : World) (t : Own.Turn h h w u) => cfull_any hi t.has)
 have HV := hhh (fun (u : World) (t : Own.Turn h h w u) v => cvalue_any hi t.has hf.c hn v)
 have HLe := hhh (fun (u : World) (t : Own.Turn h h w u) m => clength_any hi t.has hf.c hn true m)
 have HCo := hhh (fun (u : World) (t : Own.Turn h h w u) pr m => pcount_any hi t.has hf.c hn pr m)
 have HLo := hhh (fun (u : World) (t : Own.Turn h h w u) g1 g2 g3 g4 => plong_any hi t.has x g1 g2 g3 g4)
 have HX0 := fun u => ptext_any x u
 have HK := hhh (fun u => pcontainer_any x u)
 have HXd : isText x = false := by unfold isText; simp; omega
 have HKd : isContainer x = ((decide (128 ≤ N) && decide (N ≤ 159)) || (decide (220 ≤ N) && decide (N ≤ 223))) := by rw [hN]; rfl
 rw [HXd] at HX0 HP0
 have HX := hhh HX0
 have HKh := hhh HKd
 have hltI : (N : Int) < 256 := by omega
 have HNl := hhh (show N < 256 by omega)
 have eA : bits .and .u8 (N : Int) 15 = (N : Int) % 16 := bits_mask .u8 8 (by decide) wraps_u8 4 (by decide) (N : Int) (by omega) (by omega)
 have eB : bits .and .u8 (N : Int) 31 = (N : Int) % 32 := bits_mask .u8 8 (by decide) wraps_u8 5 (by decide) (N : Int) (by omega) (by omega)
 obtain ⟨D, hD⟩ : ∃ D, D = 255 - N := ⟨_, rfl⟩
 have eX : bits .xor .u8 IntKind.u8.max (N : Int) = (D : Int) := by
  have := u8_not ⟨N, by omega⟩
  simp only at this
  show bits .xor .u8 255 (N : Int) = (D : Int)
  rw [this]
  omega
 have eW : IntKind.u64.wrap (D : Int) = (D : Int) := by rw [IntKind.wrap_u64]; omega
 rw [← hD] at HP0
 have HDl := hhh (show D < 256 by omega)
 clear hD
 have HPh := hhh HP0
 have HNb := hhh (show 196 ≤ N ∧ N ≤ 198 by omega)
 rw [← hN]
 rw [← hN] at HX HK HLo
 generalize p.item x = O at HPh ⊢
 generalize isContainer x = K at HKh HPh HK
 clear hi hw hf HP0 hN hn HXd HKd hlo hhi HX0
 have q0 : ((N : Int) == 193) = false := by rw [beq_eq_false_iff_ne]; have := HNb.out; omega
 go_enter Tryz.func147, Tryz.ntmps147
 go_wp2_with (fail)
 refine HD.out.mono ?_
 rintro e w1 ⟨rfl, rfl⟩
 cases hd : p.c.done
 case true =>
  have HP := hhh (HPh.out.trans (if_pos (.inl hd)))
  clear HPh hd
  go_wp2_with (fail)
  refine (HF0.out 2).mono ?_
  rintro e w4 ⟨v, hv, h4, rfl, hs, i4, t4⟩
  have HI4 := hhh i4
  have HT4 := hhh t4
  have HS4 := hhh hs
  clear i4 t4 hs
  go_wp2
  go_ret
  rw [HP.out]
  exact ⟨_, hv, h4, rfl, HS4.out, HI4.out, HT4.out⟩
 case false =>
  have HPd := hhh (HPh.out.trans (if_neg (by rw [hd]; first | (simp; done) | (have := HNb.out; simp; omega))))
  clear HPh hd
  go_wp2_with (fail)
  refine HA.out.mono ?_
  rintro e w2 ⟨rfl, t2⟩
  have T2 := hhh t2
  clear t2
  cases hk : p.c.atKey
  ·have HPk := hhh (HPd.out.trans (if_neg (by rw [hk]; simp)))
   clear HPd hk HX
   have a1 : ¬ (199 : Int) ≤ (N : Int) := by have := HNb.out; omega
   have a3 : ¬ (212 : Int) ≤ (N : Int) := by have := HNb.out; omega
   have a5 : ((N : Int) == 202) = false := by rw [beq_eq_false_iff_ne]; have := HNb.out; omega
   have a6 : ((N : Int) == 203) = false := by rw [beq_eq_false_iff_ne]; have := HNb.out; omega
   have a7 : ¬ (N : Int) < 128 := by have := HNb.out; omega
   have a8 : ¬ (224 : Int) ≤ (N : Int) := by have := HNb.out; omega
   have a9 : ¬ (N : Int) < 160 := by have := HNb.out; omega
   have b2 : ¬ (N : Int) < 192 := by have := HNb.out; omega
   have b3 : ((N : Int) == 192) = false := by rw [beq_eq_false_iff_ne]; have := HNb.out; omega
   have b4 : ¬ (N : Int) ≤ 195 := by have := HNb.out; omega
   have b5 : ((N : Int) == 195) = false := by rw [beq_eq_false_iff_ne]; have := HNb.out; omega
   have HPl := hhh (HPk.out.trans (if_neg (by first | (have := HNb.out; omega) | trivial | (simp; done))))
   clear HPk
   have HPm := hhh (HPl.out.trans (if_neg (by first | (have := HNb.out; omega) | trivial | (simp; done))))
   clear HPl
   have hK : K = false := by rw [HKh.out]; have := HNb.out; first | (simp; done) | (simp; omega)
   rw [hK] at HK HPm
   clear hK HKh
   go_wp2_with (fail)
   refine (HK.out _).mono ?_
   rintro e w3 ⟨rfl, rfl⟩
   have HPn := hhh (HPm.out.trans (if_neg (by simp)))
   clear HPm
   have HC2 := hhh (HLo.out _ T2.out (by first | (have := HNb.out; omega) | trivial | (simp; done)) (by first | (have := HNb.out; omega) | trivial | (simp; done)) (by first | (have := HNb.out; omega) | trivial | (simp; done)) (by first | (have := HNb.out; omega) | trivial | (simp; done)))
   have HP := hhh ((((((HPn.out.trans (if_neg (by first | (have := HNb.out; omega) | trivial | (simp; done)))).trans (if_neg (by first | (have := HNb.out; omega) | trivial | (simp; done)))).trans (if_neg (by first | (have := HNb.out; omega) | trivial | (simp; done)))).trans (if_neg (by first | (have := HNb.out; omega) | trivial | (simp; done)))).trans (if_neg (by first | (have := HNb.out; omega) | trivial | (simp; done)))).trans (if_neg (by first | (have := HNb.out; omega) | trivial | (simp; done))))
   clear HPn HNb
   go_wp2_with (fail)
   refine (HC2.out).mono ?_
   rintro e w4 ⟨v, hv, h4, rfl, hs, i4, t4⟩
   have HI4 := hhh i4
   have HT4 := hhh t4
   have HS4 := hhh hs
   clear i4 t4 hs
   go_wp2
   go_ret
   rw [HP.out]
   exact ⟨_, hv, h4, rfl, HS4.out, HI4.out, T2.out.trans HT4.out⟩
  ·go_wp2_with (fail)
   refine (HX.out _).mono ?_
   rintro e w3 ⟨rfl, rfl⟩
   have HP := hhh (HPd.out.trans (if_pos (by rw [hk]; simp)))
   clear HPd hk HX
   go_wp2_with (fail)
   refine (HF.out _ T2.out 8).mono ?_
   rintro e w4 ⟨v, hv, h4, rfl, hs, i4, t4⟩
   have HI4 := hhh i4
   have HT4 := hhh t4
   have HS4 := hhh hs
   clear i4 t4 hs
   go_wp2
   go_ret
   rw [HP.out]
   exact ⟨_, hv, h4, rfl, HS4.out, HI4.out, T2.out.trans HT4.out⟩
theorem pitem_199 {n : Nat} (hi : p.Is b h) (hw : Own.Has w h) (hf : p.Fits n) (hn : n ≤ 1000000) (x : UInt8) (hlo : 199 ≤ x.toNat) (hhi : x.toNat ≤ 201) :
  Calls Tryz.prog 147 #[.pointer (some ⟨b, 0, none⟩), .int .u8 (x.toNat : Int)] w (PinDoes (p.item x) b h w) := by
 obtain ⟨N, hN⟩ : ∃ N, N = x.toNat := ⟨_, rfl⟩
 have HP0 : p.item x = if p.c.done = true ∨ N = 193 then p.on (p.c.fail 2) else if p.c.atKey = true ∧ isText x = false then p.on (p.c.fail 8) else if (199 ≤ N ∧ N ≤ 201) ∨ (212 ≤ N ∧ N ≤ 216) then p.on (p.c.fail 8)
   else if N = 202 ∨ N = 203 then p.on (p.c.fail 6) else if isContainer x = true ∧ p.c.full = true then p.on (p.c.fail 4) else if N < 128 then p.on (p.c.value (.whole false N)) else if 224 ≤ N then p.on (p.c.value (.whole true (255 - N)))
   else if N < 160 then p.count (decide (N < 144)) (N % 16) else if N < 192 then p.on (p.c.length true (N % 32)) else if N = 192 then p.on (p.c.value .null) else if N ≤ 195 then p.on (p.c.value (.bool (decide (N = 195)))) else p.long x := by rw [hN]; rfl
 have HF := hhh (fun (u : World) (t : Own.Turn h h w u) e => cfail_any hi t.has e)
 have HF0 := hhh (fun e => cfail_any hi hw e)
 have HD := hhh (cdone_any hi hw)
 have HA := hhh (catkey_any hi hw hf.c)
 have HFu := hhh (fun (u : World) (t : Own.Turn h h w u) => cfull_any hi t.has)
 have HV := hhh (fun (u : World) (t : Own.Turn h h w u) v => cvalue_any hi t.has hf.c hn v)
 have HLe := hhh (fun (u : World) (t : Own.Turn h h w u) m => clength_any hi t.has hf.c hn true m)
 have HCo := hhh (fun (u : World) (t : Own.Turn h h w u) pr m => pcount_any hi t.has hf.c hn pr m)
 have HLo := hhh (fun (u : World) (t : Own.Turn h h w u) g1 g2 g3 g4 => plong_any hi t.has x g1 g2 g3 g4)
 have HX0 := fun u => ptext_any x u
 have HK := hhh (fun u => pcontainer_any x u)
 have HXd : isText x = false := by unfold isText; simp; omega
 have HKd : isContainer x = ((decide (128 ≤ N) && decide (N ≤ 159)) || (decide (220 ≤ N) && decide (N ≤ 223))) := by rw [hN]; rfl
 rw [HXd] at HX0 HP0
 have HX := hhh HX0
 have HKh := hhh HKd
 have hltI : (N : Int) < 256 := by omega
 have HNl := hhh (show N < 256 by omega)
 have eA : bits .and .u8 (N : Int) 15 = (N : Int) % 16 := bits_mask .u8 8 (by decide) wraps_u8 4 (by decide) (N : Int) (by omega) (by omega)
 have eB : bits .and .u8 (N : Int) 31 = (N : Int) % 32 := bits_mask .u8 8 (by decide) wraps_u8 5 (by decide) (N : Int) (by omega) (by omega)
 obtain ⟨D, hD⟩ : ∃ D, D = 255 - N := ⟨_, rfl⟩
 have eX : bits .xor .u8 IntKind.u8.max (N : Int) = (D : Int) := by
  have := u8_not ⟨N, by omega⟩
  simp only at this
  show bits .xor .u8 255 (N : Int) = (D : Int)
  rw [this]
  omega
 have eW : IntKind.u64.wrap (D : Int) = (D : Int) := by rw [IntKind.wrap_u64]; omega
 rw [← hD] at HP0
 have HDl := hhh (show D < 256 by omega)
 clear hD
 have HPh := hhh HP0
 have HNb := hhh (show 199 ≤ N ∧ N ≤ 201 by omega)
 rw [← hN]
 rw [← hN] at HX HK HLo
 generalize p.item x = O at HPh ⊢
 generalize isContainer x = K at HKh HPh HK
 clear hi hw hf HP0 hN hn HXd HKd hlo hhi HX0
 have q0 : ((N : Int) == 193) = false := by rw [beq_eq_false_iff_ne]; have := HNb.out; omega
 go_enter Tryz.func147, Tryz.ntmps147
 go_wp2_with (fail)
 refine HD.out.mono ?_
 rintro e w1 ⟨rfl, rfl⟩
 cases hd : p.c.done
 case true =>
  have HP := hhh (HPh.out.trans (if_pos (.inl hd)))
  clear HPh hd
  go_wp2_with (fail)
  refine (HF0.out 2).mono ?_
  rintro e w4 ⟨v, hv, h4, rfl, hs, i4, t4⟩
  have HI4 := hhh i4
  have HT4 := hhh t4
  have HS4 := hhh hs
  clear i4 t4 hs
  go_wp2
  go_ret
  rw [HP.out]
  exact ⟨_, hv, h4, rfl, HS4.out, HI4.out, HT4.out⟩
 case false =>
  have HPd := hhh (HPh.out.trans (if_neg (by rw [hd]; first | (simp; done) | (have := HNb.out; simp; omega))))
  clear HPh hd
  go_wp2_with (fail)
  refine HA.out.mono ?_
  rintro e w2 ⟨rfl, t2⟩
  have T2 := hhh t2
  clear t2
  cases hk : p.c.atKey
  ·have HPk := hhh (HPd.out.trans (if_neg (by rw [hk]; simp)))
   clear HPd hk HX
   have a1 : (199 : Int) ≤ (N : Int) := by have := HNb.out; omega
   have a2 : (N : Int) ≤ 201 := by have := HNb.out; omega
   have HP := hhh (HPk.out.trans (if_pos (by first | (have := HNb.out; omega) | trivial | (simp; done))))
   clear HPk HNb
   go_wp2_with (fail)
   refine (HF.out _ T2.out 8).mono ?_
   rintro e w4 ⟨v, hv, h4, rfl, hs, i4, t4⟩
   have HI4 := hhh i4
   have HT4 := hhh t4
   have HS4 := hhh hs
   clear i4 t4 hs
   go_wp2
   go_ret
   rw [HP.out]
   exact ⟨_, hv, h4, rfl, HS4.out, HI4.out, T2.out.trans HT4.out⟩
  ·go_wp2_with (fail)
   refine (HX.out _).mono ?_
   rintro e w3 ⟨rfl, rfl⟩
   have HP := hhh (HPd.out.trans (if_pos (by rw [hk]; simp)))
   clear HPd hk HX
   go_wp2_with (fail)
   refine (HF.out _ T2.out 8).mono ?_
   rintro e w4 ⟨v, hv, h4, rfl, hs, i4, t4⟩
   have HI4 := hhh i4
   have HT4 := hhh t4
   have HS4 := hhh hs
   clear i4 t4 hs
   go_wp2
   go_ret
   rw [HP.out]
   exact ⟨_, hv, h4, rfl, HS4.out, HI4.out, T2.out.trans HT4.out⟩
theorem pitem_202 {n : Nat} (hi : p.Is b h) (hw : Own.Has w h) (hf : p.Fits n) (hn : n ≤ 1000000) (x : UInt8) (hlo : 202 ≤ x.toNat) (hhi : x.toNat ≤ 202) :
  Calls Tryz.prog 147 #[.pointer (some ⟨b, 0, none⟩), .int .u8 (x.toNat : Int)] w (PinDoes (p.item x) b h w) := by
 obtain ⟨N, hN⟩ : ∃ N, N = x.toNat := ⟨_, rfl⟩
 have HP0 : p.item x = if p.c.done = true ∨ N = 193 then p.on (p.c.fail 2) else if p.c.atKey = true ∧ isText x = false then p.on (p.c.fail 8) else if (199 ≤ N ∧ N ≤ 201) ∨ (212 ≤ N ∧ N ≤ 216) then p.on (p.c.fail 8)
   else if N = 202 ∨ N = 203 then p.on (p.c.fail 6) else if isContainer x = true ∧ p.c.full = true then p.on (p.c.fail 4) else if N < 128 then p.on (p.c.value (.whole false N)) else if 224 ≤ N then p.on (p.c.value (.whole true (255 - N)))
   else if N < 160 then p.count (decide (N < 144)) (N % 16) else if N < 192 then p.on (p.c.length true (N % 32)) else if N = 192 then p.on (p.c.value .null) else if N ≤ 195 then p.on (p.c.value (.bool (decide (N = 195)))) else p.long x := by rw [hN]; rfl
 have HF := hhh (fun (u : World) (t : Own.Turn h h w u) e => cfail_any hi t.has e)
 have HF0 := hhh (fun e => cfail_any hi hw e)
 have HD := hhh (cdone_any hi hw)
 have HA := hhh (catkey_any hi hw hf.c)
 have HFu := hhh (fun (u : World) (t : Own.Turn h h w u) => cfull_any hi t.has)
 have HV := hhh (fun (u : World) (t : Own.Turn h h w u) v => cvalue_any hi t.has hf.c hn v)
 have HLe := hhh (fun (u : World) (t : Own.Turn h h w u) m => clength_any hi t.has hf.c hn true m)
 have HCo := hhh (fun (u : World) (t : Own.Turn h h w u) pr m => pcount_any hi t.has hf.c hn pr m)
 have HLo := hhh (fun (u : World) (t : Own.Turn h h w u) g1 g2 g3 g4 => plong_any hi t.has x g1 g2 g3 g4)
 have HX0 := fun u => ptext_any x u
 have HK := hhh (fun u => pcontainer_any x u)
 have HXd : isText x = false := by unfold isText; simp; omega
 have HKd : isContainer x = ((decide (128 ≤ N) && decide (N ≤ 159)) || (decide (220 ≤ N) && decide (N ≤ 223))) := by rw [hN]; rfl
 rw [HXd] at HX0 HP0
 have HX := hhh HX0
 have HKh := hhh HKd
 have hltI : (N : Int) < 256 := by omega
 have HNl := hhh (show N < 256 by omega)
 have eA : bits .and .u8 (N : Int) 15 = (N : Int) % 16 := bits_mask .u8 8 (by decide) wraps_u8 4 (by decide) (N : Int) (by omega) (by omega)
 have eB : bits .and .u8 (N : Int) 31 = (N : Int) % 32 := bits_mask .u8 8 (by decide) wraps_u8 5 (by decide) (N : Int) (by omega) (by omega)
 obtain ⟨D, hD⟩ : ∃ D, D = 255 - N := ⟨_, rfl⟩
 have eX : bits .xor .u8 IntKind.u8.max (N : Int) = (D : Int) := by
  have := u8_not ⟨N, by omega⟩
  simp only at this
  show bits .xor .u8 255 (N : Int) = (D : Int)
  rw [this]
  omega
 have eW : IntKind.u64.wrap (D : Int) = (D : Int) := by rw [IntKind.wrap_u64]; omega
 rw [← hD] at HP0
 have HDl := hhh (show D < 256 by omega)
 clear hD
 have HPh := hhh HP0
 have HNb := hhh (show 202 ≤ N ∧ N ≤ 202 by omega)
 rw [← hN]
 rw [← hN] at HX HK HLo
 generalize p.item x = O at HPh ⊢
 generalize isContainer x = K at HKh HPh HK
 clear hi hw hf HP0 hN hn HXd HKd hlo hhi HX0
 clear eA eB eX eW hltI HNl
 obtain rfl : N = 202 := by have := HNb.out; omega
 simp only [Int.cast_ofNat_Int] at HX HK HLo ⊢
 go_enter Tryz.func147, Tryz.ntmps147
 go_wp2_with (fail)
 refine HD.out.mono ?_
 rintro e w1 ⟨rfl, rfl⟩
 cases hd : p.c.done
 case true =>
  have HP := hhh (HPh.out.trans (if_pos (.inl hd)))
  clear HPh hd
  go_wp2_with (fail)
  refine (HF0.out 2).mono ?_
  rintro e w4 ⟨v, hv, h4, rfl, hs, i4, t4⟩
  have HI4 := hhh i4
  have HT4 := hhh t4
  have HS4 := hhh hs
  clear i4 t4 hs
  go_wp2
  go_ret
  rw [HP.out]
  exact ⟨_, hv, h4, rfl, HS4.out, HI4.out, HT4.out⟩
 case false =>
  have HPd := hhh (HPh.out.trans (if_neg (by rw [hd]; first | (simp; done) | (have := HNb.out; simp; omega))))
  clear HPh hd
  go_wp2_with (fail)
  refine HA.out.mono ?_
  rintro e w2 ⟨rfl, t2⟩
  have T2 := hhh t2
  clear t2
  cases hk : p.c.atKey
  ·have HPk := hhh (HPd.out.trans (if_neg (by rw [hk]; simp)))
   clear HPd hk HX
   have HPl := hhh (HPk.out.trans (if_neg (by first | (have := HNb.out; omega) | trivial | (simp; done))))
   clear HPk
   have HP := hhh (HPl.out.trans (if_pos (by first | (have := HNb.out; omega) | trivial | (simp; done))))
   clear HPl HNb
   go_wp2_with (fail)
   refine (HF.out _ T2.out 6).mono ?_
   rintro e w4 ⟨v, hv, h4, rfl, hs, i4, t4⟩
   have HI4 := hhh i4
   have HT4 := hhh t4
   have HS4 := hhh hs
   clear i4 t4 hs
   go_wp2
   go_ret
   rw [HP.out]
   exact ⟨_, hv, h4, rfl, HS4.out, HI4.out, T2.out.trans HT4.out⟩
  ·go_wp2_with (fail)
   refine (HX.out _).mono ?_
   rintro e w3 ⟨rfl, rfl⟩
   have HP := hhh (HPd.out.trans (if_pos (by rw [hk]; simp)))
   clear HPd hk HX
   go_wp2_with (fail)
   refine (HF.out _ T2.out 8).mono ?_
   rintro e w4 ⟨v, hv, h4, rfl, hs, i4, t4⟩
   have HI4 := hhh i4
   have HT4 := hhh t4
   have HS4 := hhh hs
   clear i4 t4 hs
   go_wp2
   go_ret
   rw [HP.out]
   exact ⟨_, hv, h4, rfl, HS4.out, HI4.out, T2.out.trans HT4.out⟩
end
end Pip
end
section
open Go.RowKit
open Json (Part)
namespace Pip
section
variable {p : Pin} {b : Nat} {h : Own.Heap} {w : World}
theorem pitem_203 {n : Nat} (hi : p.Is b h) (hw : Own.Has w h) (hf : p.Fits n) (hn : n ≤ 1000000) (x : UInt8) (hlo : 203 ≤ x.toNat) (hhi : x.toNat ≤ 203) :
  Calls Tryz.prog 147 #[.pointer (some ⟨b, 0, none⟩), .int .u8 (x.toNat : Int)] w (PinDoes (p.item x) b h w) := by
 obtain ⟨N, hN⟩ : ∃ N, N = x.toNat := ⟨_, rfl⟩
 have HP0 : p.item x = if p.c.done = true ∨ N = 193 then p.on (p.c.fail 2) else if p.c.atKey = true ∧ isText x = false then p.on (p.c.fail 8) else if (199 ≤ N ∧ N ≤ 201) ∨ (212 ≤ N ∧ N ≤ 216) then p.on (p.c.fail 8)
   else if N = 202 ∨ N = 203 then p.on (p.c.fail 6) else if isContainer x = true ∧ p.c.full = true then p.on (p.c.fail 4) else if N < 128 then p.on (p.c.value (.whole false N)) else if 224 ≤ N then p.on (p.c.value (.whole true (255 - N)))
   else if N < 160 then p.count (decide (N < 144)) (N % 16) else if N < 192 then p.on (p.c.length true (N % 32)) else if N = 192 then p.on (p.c.value .null) else if N ≤ 195 then p.on (p.c.value (.bool (decide (N = 195)))) else p.long x := by rw [hN]; rfl
 have HF := hhh (fun (u : World) (t : Own.Turn h h w u) e => cfail_any hi t.has e)
 have HF0 := hhh (fun e => cfail_any hi hw e)
 have HD := hhh (cdone_any hi hw)
 have HA := hhh (catkey_any hi hw hf.c)
 have HFu := hhh (fun (u : World) (t : Own.Turn h h w u) => cfull_any hi t.has)
 have HV := hhh (fun (u : World) (t : Own.Turn h h w u) v => cvalue_any hi t.has hf.c hn v)
 have HLe := hhh (fun (u : World) (t : Own.Turn h h w u) m => clength_any hi t.has hf.c hn true m)
 have HCo := hhh (fun (u : World) (t : Own.Turn h h w u) pr m => pcount_any hi t.has hf.c hn pr m)
 have HLo := hhh (fun (u : World) (t : Own.Turn h h w u) g1 g2 g3 g4 => plong_any hi t.has x g1 g2 g3 g4)
 have HX0 := fun u => ptext_any x u
 have HK := hhh (fun u => pcontainer_any x u)
 have HXd : isText x = false := by unfold isText; simp; omega
 have HKd : isContainer x = ((decide (128 ≤ N) && decide (N ≤ 159)) || (decide (220 ≤ N) && decide (N ≤ 223))) := by rw [hN]; rfl
 rw [HXd] at HX0 HP0
 have HX := hhh HX0
 have HKh := hhh HKd
 have hltI : (N : Int) < 256 := by omega
 have HNl := hhh (show N < 256 by omega)
 have eA : bits .and .u8 (N : Int) 15 = (N : Int) % 16 := bits_mask .u8 8 (by decide) wraps_u8 4 (by decide) (N : Int) (by omega) (by omega)
 have eB : bits .and .u8 (N : Int) 31 = (N : Int) % 32 := bits_mask .u8 8 (by decide) wraps_u8 5 (by decide) (N : Int) (by omega) (by omega)
 obtain ⟨D, hD⟩ : ∃ D, D = 255 - N := ⟨_, rfl⟩
 have eX : bits .xor .u8 IntKind.u8.max (N : Int) = (D : Int) := by
  have := u8_not ⟨N, by omega⟩
  simp only at this
  show bits .xor .u8 255 (N : Int) = (D : Int)
  rw [this]
  omega
 have eW : IntKind.u64.wrap (D : Int) = (D : Int) := by rw [IntKind.wrap_u64]; omega
 rw [← hD] at HP0
 have HDl := hhh (show D < 256 by omega)
 clear hD
 have HPh := hhh HP0
 have HNb := hhh (show 203 ≤ N ∧ N ≤ 203 by omega)
 rw [← hN]
 rw [← hN] at HX HK HLo
 generalize p.item x = O at HPh ⊢
 generalize isContainer x = K at HKh HPh HK
 clear hi hw hf HP0 hN hn HXd HKd hlo hhi HX0
 clear eA eB eX eW hltI HNl
 obtain rfl : N = 203 := by have := HNb.out; omega
 simp only [Int.cast_ofNat_Int] at HX HK HLo ⊢
 go_enter Tryz.func147, Tryz.ntmps147
 go_wp2_with (fail)
 refine HD.out.mono ?_
 rintro e w1 ⟨rfl, rfl⟩
 cases hd : p.c.done
 case true =>
  have HP := hhh (HPh.out.trans (if_pos (.inl hd)))
  clear HPh hd
  go_wp2_with (fail)
  refine (HF0.out 2).mono ?_
  rintro e w4 ⟨v, hv, h4, rfl, hs, i4, t4⟩
  have HI4 := hhh i4
  have HT4 := hhh t4
  have HS4 := hhh hs
  clear i4 t4 hs
  go_wp2
  go_ret
  rw [HP.out]
  exact ⟨_, hv, h4, rfl, HS4.out, HI4.out, HT4.out⟩
 case false =>
  have HPd := hhh (HPh.out.trans (if_neg (by rw [hd]; first | (simp; done) | (have := HNb.out; simp; omega))))
  clear HPh hd
  go_wp2_with (fail)
  refine HA.out.mono ?_
  rintro e w2 ⟨rfl, t2⟩
  have T2 := hhh t2
  clear t2
  cases hk : p.c.atKey
  ·have HPk := hhh (HPd.out.trans (if_neg (by rw [hk]; simp)))
   clear HPd hk HX
   have HPl := hhh (HPk.out.trans (if_neg (by first | (have := HNb.out; omega) | trivial | (simp; done))))
   clear HPk
   have HP := hhh (HPl.out.trans (if_pos (by first | (have := HNb.out; omega) | trivial | (simp; done))))
   clear HPl HNb
   go_wp2_with (fail)
   refine (HF.out _ T2.out 6).mono ?_
   rintro e w4 ⟨v, hv, h4, rfl, hs, i4, t4⟩
   have HI4 := hhh i4
   have HT4 := hhh t4
   have HS4 := hhh hs
   clear i4 t4 hs
   go_wp2
   go_ret
   rw [HP.out]
   exact ⟨_, hv, h4, rfl, HS4.out, HI4.out, T2.out.trans HT4.out⟩
  ·go_wp2_with (fail)
   refine (HX.out _).mono ?_
   rintro e w3 ⟨rfl, rfl⟩
   have HP := hhh (HPd.out.trans (if_pos (by rw [hk]; simp)))
   clear HPd hk HX
   go_wp2_with (fail)
   refine (HF.out _ T2.out 8).mono ?_
   rintro e w4 ⟨v, hv, h4, rfl, hs, i4, t4⟩
   have HI4 := hhh i4
   have HT4 := hhh t4
   have HS4 := hhh hs
   clear i4 t4 hs
   go_wp2
   go_ret
   rw [HP.out]
   exact ⟨_, hv, h4, rfl, HS4.out, HI4.out, T2.out.trans HT4.out⟩
theorem pitem_204 {n : Nat} (hi : p.Is b h) (hw : Own.Has w h) (hf : p.Fits n) (hn : n ≤ 1000000) (x : UInt8) (hlo : 204 ≤ x.toNat) (hhi : x.toNat ≤ 211) :
  Calls Tryz.prog 147 #[.pointer (some ⟨b, 0, none⟩), .int .u8 (x.toNat : Int)] w (PinDoes (p.item x) b h w) := by
 obtain ⟨N, hN⟩ : ∃ N, N = x.toNat := ⟨_, rfl⟩
 have HP0 : p.item x = if p.c.done = true ∨ N = 193 then p.on (p.c.fail 2) else if p.c.atKey = true ∧ isText x = false then p.on (p.c.fail 8) else if (199 ≤ N ∧ N ≤ 201) ∨ (212 ≤ N ∧ N ≤ 216) then p.on (p.c.fail 8)
   else if N = 202 ∨ N = 203 then p.on (p.c.fail 6) else if isContainer x = true ∧ p.c.full = true then p.on (p.c.fail 4) else if N < 128 then p.on (p.c.value (.whole false N)) else if 224 ≤ N then p.on (p.c.value (.whole true (255 - N)))
   else if N < 160 then p.count (decide (N < 144)) (N % 16) else if N < 192 then p.on (p.c.length true (N % 32)) else if N = 192 then p.on (p.c.value .null) else if N ≤ 195 then p.on (p.c.value (.bool (decide (N = 195)))) else p.long x := by rw [hN]; rfl
 have HF := hhh (fun (u : World) (t : Own.Turn h h w u) e => cfail_any hi t.has e)
 have HF0 := hhh (fun e => cfail_any hi hw e)
 have HD := hhh (cdone_any hi hw)
 have HA := hhh (catkey_any hi hw hf.c)
 have HFu := hhh (fun (u : World) (t : Own.Turn h h w u) => cfull_any hi t.has)
 have HV := hhh (fun (u : World) (t : Own.Turn h h w u) v => cvalue_any hi t.has hf.c hn v)
 have HLe := hhh (fun (u : World) (t : Own.Turn h h w u) m => clength_any hi t.has hf.c hn true m)
 have HCo := hhh (fun (u : World) (t : Own.Turn h h w u) pr m => pcount_any hi t.has hf.c hn pr m)
 have HLo := hhh (fun (u : World) (t : Own.Turn h h w u) g1 g2 g3 g4 => plong_any hi t.has x g1 g2 g3 g4)
 have HX0 := fun u => ptext_any x u
 have HK := hhh (fun u => pcontainer_any x u)
 have HXd : isText x = false := by unfold isText; simp; omega
 have HKd : isContainer x = ((decide (128 ≤ N) && decide (N ≤ 159)) || (decide (220 ≤ N) && decide (N ≤ 223))) := by rw [hN]; rfl
 rw [HXd] at HX0 HP0
 have HX := hhh HX0
 have HKh := hhh HKd
 have hltI : (N : Int) < 256 := by omega
 have HNl := hhh (show N < 256 by omega)
 have eA : bits .and .u8 (N : Int) 15 = (N : Int) % 16 := bits_mask .u8 8 (by decide) wraps_u8 4 (by decide) (N : Int) (by omega) (by omega)
 have eB : bits .and .u8 (N : Int) 31 = (N : Int) % 32 := bits_mask .u8 8 (by decide) wraps_u8 5 (by decide) (N : Int) (by omega) (by omega)
 obtain ⟨D, hD⟩ : ∃ D, D = 255 - N := ⟨_, rfl⟩
 have eX : bits .xor .u8 IntKind.u8.max (N : Int) = (D : Int) := by
  have := u8_not ⟨N, by omega⟩
  simp only at this
  show bits .xor .u8 255 (N : Int) = (D : Int)
  rw [this]
  omega
 have eW : IntKind.u64.wrap (D : Int) = (D : Int) := by rw [IntKind.wrap_u64]; omega
 rw [← hD] at HP0
 have HDl := hhh (show D < 256 by omega)
 clear hD
 have HPh := hhh HP0
 have HNb := hhh (show 204 ≤ N ∧ N ≤ 211 by omega)
 rw [← hN]
 rw [← hN] at HX HK HLo
 generalize p.item x = O at HPh ⊢
 generalize isContainer x = K at HKh HPh HK
 clear hi hw hf HP0 hN hn HXd HKd hlo hhi HX0
 have q0 : ((N : Int) == 193) = false := by rw [beq_eq_false_iff_ne]; have := HNb.out; omega
 go_enter Tryz.func147, Tryz.ntmps147
 go_wp2_with (fail)
 refine HD.out.mono ?_
 rintro e w1 ⟨rfl, rfl⟩
 cases hd : p.c.done
 case true =>
  have HP := hhh (HPh.out.trans (if_pos (.inl hd)))
  clear HPh hd
  go_wp2_with (fail)
  refine (HF0.out 2).mono ?_
  rintro e w4 ⟨v, hv, h4, rfl, hs, i4, t4⟩
  have HI4 := hhh i4
  have HT4 := hhh t4
  have HS4 := hhh hs
  clear i4 t4 hs
  go_wp2
  go_ret
  rw [HP.out]
  exact ⟨_, hv, h4, rfl, HS4.out, HI4.out, HT4.out⟩
 case false =>
  have HPd := hhh (HPh.out.trans (if_neg (by rw [hd]; first | (simp; done) | (have := HNb.out; simp; omega))))
  clear HPh hd
  go_wp2_with (fail)
  refine HA.out.mono ?_
  rintro e w2 ⟨rfl, t2⟩
  have T2 := hhh t2
  clear t2
  cases hk : p.c.atKey
  ·have HPk := hhh (HPd.out.trans (if_neg (by rw [hk]; simp)))
   clear HPd hk HX
   have a1 : (199 : Int) ≤ (N : Int) := by have := HNb.out; omega
   have a2 : ¬ (N : Int) ≤ 201 := by have := HNb.out; omega
   have a3 : ¬ (212 : Int) ≤ (N : Int) := by have := HNb.out; omega
   have a5 : ((N : Int) == 202) = false := by rw [beq_eq_false_iff_ne]; have := HNb.out; omega
   have a6 : ((N : Int) == 203) = false := by rw [beq_eq_false_iff_ne]; have := HNb.out; omega
   have a7 : ¬ (N : Int) < 128 := by have := HNb.out; omega
   have a8 : ¬ (224 : Int) ≤ (N : Int) := by have := HNb.out; omega
   have a9 : ¬ (N : Int) < 160 := by have := HNb.out; omega
   have b2 : ¬ (N : Int) < 192 := by have := HNb.out; omega
   have b3 : ((N : Int) == 192) = false := by rw [beq_eq_false_iff_ne]; have := HNb.out; omega
   have b4 : ¬ (N : Int) ≤ 195 := by have := HNb.out; omega
   have b5 : ((N : Int) == 195) = false := by rw [beq_eq_false_iff_ne]; have := HNb.out; omega
   have HPl := hhh (HPk.out.trans (if_neg (by first | (have := HNb.out; omega) | trivial | (simp; done))))
   clear HPk
   have HPm := hhh (HPl.out.trans (if_neg (by first | (have := HNb.out; omega) | trivial | (simp; done))))
   clear HPl
   have hK : K = false := by rw [HKh.out]; have := HNb.out; first | (simp; done) | (simp; omega)
   rw [hK] at HK HPm
   clear hK HKh
   go_wp2_with (fail)
   refine (HK.out _).mono ?_
   rintro e w3 ⟨rfl, rfl⟩
   have HPn := hhh (HPm.out.trans (if_neg (by simp)))
   clear HPm
   have HC2 := hhh (HLo.out _ T2.out (by first | (have := HNb.out; omega) | trivial | (simp; done)) (by first | (have := HNb.out; omega) | trivial | (simp; done)) (by first | (have := HNb.out; omega) | trivial | (simp; done)) (by first | (have := HNb.out; omega) | trivial | (simp; done)))
   have HP := hhh ((((((HPn.out.trans (if_neg (by first | (have := HNb.out; omega) | trivial | (simp; done)))).trans (if_neg (by first | (have := HNb.out; omega) | trivial | (simp; done)))).trans (if_neg (by first | (have := HNb.out; omega) | trivial | (simp; done)))).trans (if_neg (by first | (have := HNb.out; omega) | trivial | (simp; done)))).trans (if_neg (by first | (have := HNb.out; omega) | trivial | (simp; done)))).trans (if_neg (by first | (have := HNb.out; omega) | trivial | (simp; done))))
   clear HPn HNb
   go_wp2_with (fail)
   refine (HC2.out).mono ?_
   rintro e w4 ⟨v, hv, h4, rfl, hs, i4, t4⟩
   have HI4 := hhh i4
   have HT4 := hhh t4
   have HS4 := hhh hs
   clear i4 t4 hs
   go_wp2
   go_ret
   rw [HP.out]
   exact ⟨_, hv, h4, rfl, HS4.out, HI4.out, T2.out.trans HT4.out⟩
  ·go_wp2_with (fail)
   refine (HX.out _).mono ?_
   rintro e w3 ⟨rfl, rfl⟩
   have HP := hhh (HPd.out.trans (if_pos (by rw [hk]; simp)))
   clear HPd hk HX
   go_wp2_with (fail)
   refine (HF.out _ T2.out 8).mono ?_
   rintro e w4 ⟨v, hv, h4, rfl, hs, i4, t4⟩
   have HI4 := hhh i4
   have HT4 := hhh t4
   have HS4 := hhh hs
   clear i4 t4 hs
   go_wp2
   go_ret
   rw [HP.out]
   exact ⟨_, hv, h4, rfl, HS4.out, HI4.out, T2.out.trans HT4.out⟩
theorem pitem_212 {n : Nat} (hi : p.Is b h) (hw : Own.Has w h) (hf : p.Fits n) (hn : n ≤ 1000000) (x : UInt8) (hlo : 212 ≤ x.toNat) (hhi : x.toNat ≤ 216) :
  Calls Tryz.prog 147 #[.pointer (some ⟨b, 0, none⟩), .int .u8 (x.toNat : Int)] w (PinDoes (p.item x) b h w) := by
 obtain ⟨N, hN⟩ : ∃ N, N = x.toNat := ⟨_, rfl⟩
 have HP0 : p.item x = if p.c.done = true ∨ N = 193 then p.on (p.c.fail 2) else if p.c.atKey = true ∧ isText x = false then p.on (p.c.fail 8) else if (199 ≤ N ∧ N ≤ 201) ∨ (212 ≤ N ∧ N ≤ 216) then p.on (p.c.fail 8)
   else if N = 202 ∨ N = 203 then p.on (p.c.fail 6) else if isContainer x = true ∧ p.c.full = true then p.on (p.c.fail 4) else if N < 128 then p.on (p.c.value (.whole false N)) else if 224 ≤ N then p.on (p.c.value (.whole true (255 - N)))
   else if N < 160 then p.count (decide (N < 144)) (N % 16) else if N < 192 then p.on (p.c.length true (N % 32)) else if N = 192 then p.on (p.c.value .null) else if N ≤ 195 then p.on (p.c.value (.bool (decide (N = 195)))) else p.long x := by rw [hN]; rfl
 have HF := hhh (fun (u : World) (t : Own.Turn h h w u) e => cfail_any hi t.has e)
 have HF0 := hhh (fun e => cfail_any hi hw e)
 have HD := hhh (cdone_any hi hw)
 have HA := hhh (catkey_any hi hw hf.c)
 have HFu := hhh (fun (u : World) (t : Own.Turn h h w u) => cfull_any hi t.has)
 have HV := hhh (fun (u : World) (t : Own.Turn h h w u) v => cvalue_any hi t.has hf.c hn v)
 have HLe := hhh (fun (u : World) (t : Own.Turn h h w u) m => clength_any hi t.has hf.c hn true m)
 have HCo := hhh (fun (u : World) (t : Own.Turn h h w u) pr m => pcount_any hi t.has hf.c hn pr m)
 have HLo := hhh (fun (u : World) (t : Own.Turn h h w u) g1 g2 g3 g4 => plong_any hi t.has x g1 g2 g3 g4)
 have HX0 := fun u => ptext_any x u
 have HK := hhh (fun u => pcontainer_any x u)
 have HXd : isText x = false := by unfold isText; simp; omega
 have HKd : isContainer x = ((decide (128 ≤ N) && decide (N ≤ 159)) || (decide (220 ≤ N) && decide (N ≤ 223))) := by rw [hN]; rfl
 rw [HXd] at HX0 HP0
 have HX := hhh HX0
 have HKh := hhh HKd
 have hltI : (N : Int) < 256 := by omega
 have HNl := hhh (show N < 256 by omega)
 have eA : bits .and .u8 (N : Int) 15 = (N : Int) % 16 := bits_mask .u8 8 (by decide) wraps_u8 4 (by decide) (N : Int) (by omega) (by omega)
 have eB : bits .and .u8 (N : Int) 31 = (N : Int) % 32 := bits_mask .u8 8 (by decide) wraps_u8 5 (by decide) (N : Int) (by omega) (by omega)
 obtain ⟨D, hD⟩ : ∃ D, D = 255 - N := ⟨_, rfl⟩
 have eX : bits .xor .u8 IntKind.u8.max (N : Int) = (D : Int) := by
  have := u8_not ⟨N, by omega⟩
  simp only at this
  show bits .xor .u8 255 (N : Int) = (D : Int)
  rw [this]
  omega
 have eW : IntKind.u64.wrap (D : Int) = (D : Int) := by rw [IntKind.wrap_u64]; omega
 rw [← hD] at HP0
 have HDl := hhh (show D < 256 by omega)
 clear hD
 have HPh := hhh HP0
 have HNb := hhh (show 212 ≤ N ∧ N ≤ 216 by omega)
 rw [← hN]
 rw [← hN] at HX HK HLo
 generalize p.item x = O at HPh ⊢
 generalize isContainer x = K at HKh HPh HK
 clear hi hw hf HP0 hN hn HXd HKd hlo hhi HX0
 have q0 : ((N : Int) == 193) = false := by rw [beq_eq_false_iff_ne]; have := HNb.out; omega
 go_enter Tryz.func147, Tryz.ntmps147
 go_wp2_with (fail)
 refine HD.out.mono ?_
 rintro e w1 ⟨rfl, rfl⟩
 cases hd : p.c.done
 case true =>
  have HP := hhh (HPh.out.trans (if_pos (.inl hd)))
  clear HPh hd
  go_wp2_with (fail)
  refine (HF0.out 2).mono ?_
  rintro e w4 ⟨v, hv, h4, rfl, hs, i4, t4⟩
  have HI4 := hhh i4
  have HT4 := hhh t4
  have HS4 := hhh hs
  clear i4 t4 hs
  go_wp2
  go_ret
  rw [HP.out]
  exact ⟨_, hv, h4, rfl, HS4.out, HI4.out, HT4.out⟩
 case false =>
  have HPd := hhh (HPh.out.trans (if_neg (by rw [hd]; first | (simp; done) | (have := HNb.out; simp; omega))))
  clear HPh hd
  go_wp2_with (fail)
  refine HA.out.mono ?_
  rintro e w2 ⟨rfl, t2⟩
  have T2 := hhh t2
  clear t2
  cases hk : p.c.atKey
  ·have HPk := hhh (HPd.out.trans (if_neg (by rw [hk]; simp)))
   clear HPd hk HX
   have a1 : (199 : Int) ≤ (N : Int) := by have := HNb.out; omega
   have a2 : ¬ (N : Int) ≤ 201 := by have := HNb.out; omega
   have a3 : (212 : Int) ≤ (N : Int) := by have := HNb.out; omega
   have a4 : (N : Int) ≤ 216 := by have := HNb.out; omega
   have HP := hhh (HPk.out.trans (if_pos (by first | (have := HNb.out; omega) | trivial | (simp; done))))
   clear HPk HNb
   go_wp2_with (fail)
   refine (HF.out _ T2.out 8).mono ?_
   rintro e w4 ⟨v, hv, h4, rfl, hs, i4, t4⟩
   have HI4 := hhh i4
   have HT4 := hhh t4
   have HS4 := hhh hs
   clear i4 t4 hs
   go_wp2
   go_ret
   rw [HP.out]
   exact ⟨_, hv, h4, rfl, HS4.out, HI4.out, T2.out.trans HT4.out⟩
  ·go_wp2_with (fail)
   refine (HX.out _).mono ?_
   rintro e w3 ⟨rfl, rfl⟩
   have HP := hhh (HPd.out.trans (if_pos (by rw [hk]; simp)))
   clear HPd hk HX
   go_wp2_with (fail)
   refine (HF.out _ T2.out 8).mono ?_
   rintro e w4 ⟨v, hv, h4, rfl, hs, i4, t4⟩
   have HI4 := hhh i4
   have HT4 := hhh t4
   have HS4 := hhh hs
   clear i4 t4 hs
   go_wp2
   go_ret
   rw [HP.out]
   exact ⟨_, hv, h4, rfl, HS4.out, HI4.out, T2.out.trans HT4.out⟩
theorem pitem_217 {n : Nat} (hi : p.Is b h) (hw : Own.Has w h) (hf : p.Fits n) (hn : n ≤ 1000000) (x : UInt8) (hlo : 217 ≤ x.toNat) (hhi : x.toNat ≤ 219) :
  Calls Tryz.prog 147 #[.pointer (some ⟨b, 0, none⟩), .int .u8 (x.toNat : Int)] w (PinDoes (p.item x) b h w) := by
 obtain ⟨N, hN⟩ : ∃ N, N = x.toNat := ⟨_, rfl⟩
 have HP0 : p.item x = if p.c.done = true ∨ N = 193 then p.on (p.c.fail 2) else if p.c.atKey = true ∧ isText x = false then p.on (p.c.fail 8) else if (199 ≤ N ∧ N ≤ 201) ∨ (212 ≤ N ∧ N ≤ 216) then p.on (p.c.fail 8)
   else if N = 202 ∨ N = 203 then p.on (p.c.fail 6) else if isContainer x = true ∧ p.c.full = true then p.on (p.c.fail 4) else if N < 128 then p.on (p.c.value (.whole false N)) else if 224 ≤ N then p.on (p.c.value (.whole true (255 - N)))
   else if N < 160 then p.count (decide (N < 144)) (N % 16) else if N < 192 then p.on (p.c.length true (N % 32)) else if N = 192 then p.on (p.c.value .null) else if N ≤ 195 then p.on (p.c.value (.bool (decide (N = 195)))) else p.long x := by rw [hN]; rfl
 have HF := hhh (fun (u : World) (t : Own.Turn h h w u) e => cfail_any hi t.has e)
 have HF0 := hhh (fun e => cfail_any hi hw e)
 have HD := hhh (cdone_any hi hw)
 have HA := hhh (catkey_any hi hw hf.c)
 have HFu := hhh (fun (u : World) (t : Own.Turn h h w u) => cfull_any hi t.has)
 have HV := hhh (fun (u : World) (t : Own.Turn h h w u) v => cvalue_any hi t.has hf.c hn v)
 have HLe := hhh (fun (u : World) (t : Own.Turn h h w u) m => clength_any hi t.has hf.c hn true m)
 have HCo := hhh (fun (u : World) (t : Own.Turn h h w u) pr m => pcount_any hi t.has hf.c hn pr m)
 have HLo := hhh (fun (u : World) (t : Own.Turn h h w u) g1 g2 g3 g4 => plong_any hi t.has x g1 g2 g3 g4)
 have HX0 := fun u => ptext_any x u
 have HK := hhh (fun u => pcontainer_any x u)
 have HXd : isText x = true := by unfold isText; simp; omega
 have HKd : isContainer x = ((decide (128 ≤ N) && decide (N ≤ 159)) || (decide (220 ≤ N) && decide (N ≤ 223))) := by rw [hN]; rfl
 rw [HXd] at HX0 HP0
 have HX := hhh HX0
 have HKh := hhh HKd
 have hltI : (N : Int) < 256 := by omega
 have HNl := hhh (show N < 256 by omega)
 have eA : bits .and .u8 (N : Int) 15 = (N : Int) % 16 := bits_mask .u8 8 (by decide) wraps_u8 4 (by decide) (N : Int) (by omega) (by omega)
 have eB : bits .and .u8 (N : Int) 31 = (N : Int) % 32 := bits_mask .u8 8 (by decide) wraps_u8 5 (by decide) (N : Int) (by omega) (by omega)
 obtain ⟨D, hD⟩ : ∃ D, D = 255 - N := ⟨_, rfl⟩
 have eX : bits .xor .u8 IntKind.u8.max (N : Int) = (D : Int) := by
  have := u8_not ⟨N, by omega⟩
  simp only at this
  show bits .xor .u8 255 (N : Int) = (D : Int)
  rw [this]
  omega
 have eW : IntKind.u64.wrap (D : Int) = (D : Int) := by rw [IntKind.wrap_u64]; omega
 rw [← hD] at HP0
 have HDl := hhh (show D < 256 by omega)
 clear hD
 have HPh := hhh HP0
 have HNb := hhh (show 217 ≤ N ∧ N ≤ 219 by omega)
 rw [← hN]
 rw [← hN] at HX HK HLo
 generalize p.item x = O at HPh ⊢
 generalize isContainer x = K at HKh HPh HK
 clear hi hw hf HP0 hN hn HXd HKd hlo hhi HX0
 have q0 : ((N : Int) == 193) = false := by rw [beq_eq_false_iff_ne]; have := HNb.out; omega
 go_enter Tryz.func147, Tryz.ntmps147
 go_wp2_with (fail)
 refine HD.out.mono ?_
 rintro e w1 ⟨rfl, rfl⟩
 cases hd : p.c.done
 case true =>
  have HP := hhh (HPh.out.trans (if_pos (.inl hd)))
  clear HPh hd
  go_wp2_with (fail)
  refine (HF0.out 2).mono ?_
  rintro e w4 ⟨v, hv, h4, rfl, hs, i4, t4⟩
  have HI4 := hhh i4
  have HT4 := hhh t4
  have HS4 := hhh hs
  clear i4 t4 hs
  go_wp2
  go_ret
  rw [HP.out]
  exact ⟨_, hv, h4, rfl, HS4.out, HI4.out, HT4.out⟩
 case false =>
  have HPd := hhh (HPh.out.trans (if_neg (by rw [hd]; first | (simp; done) | (have := HNb.out; simp; omega))))
  clear HPh hd
  go_wp2_with (fail)
  refine HA.out.mono ?_
  rintro e w2 ⟨rfl, t2⟩
  have T2 := hhh t2
  clear t2
  cases hk : p.c.atKey
  ·have HPk := hhh (HPd.out.trans (if_neg (by rw [hk]; simp)))
   clear HPd hk HX
   have a1 : (199 : Int) ≤ (N : Int) := by have := HNb.out; omega
   have a2 : ¬ (N : Int) ≤ 201 := by have := HNb.out; omega
   have a3 : (212 : Int) ≤ (N : Int) := by have := HNb.out; omega
   have a4 : ¬ (N : Int) ≤ 216 := by have := HNb.out; omega
   have a5 : ((N : Int) == 202) = false := by rw [beq_eq_false_iff_ne]; have := HNb.out; omega
   have a6 : ((N : Int) == 203) = false := by rw [beq_eq_false_iff_ne]; have := HNb.out; omega
   have a7 : ¬ (N : Int) < 128 := by have := HNb.out; omega
   have a8 : ¬ (224 : Int) ≤ (N : Int) := by have := HNb.out; omega
   have a9 : ¬ (N : Int) < 160 := by have := HNb.out; omega
   have b2 : ¬ (N : Int) < 192 := by have := HNb.out; omega
   have b3 : ((N : Int) == 192) = false := by rw [beq_eq_false_iff_ne]; have := HNb.out; omega
   have b4 : ¬ (N : Int) ≤ 195 := by have := HNb.out; omega
   have b5 : ((N : Int) == 195) = false := by rw [beq_eq_false_iff_ne]; have := HNb.out; omega
   have HPl := hhh (HPk.out.trans (if_neg (by first | (have := HNb.out; omega) | trivial | (simp; done))))
   clear HPk
   have HPm := hhh (HPl.out.trans (if_neg (by first | (have := HNb.out; omega) | trivial | (simp; done))))
   clear HPl
   have hK : K = false := by rw [HKh.out]; have := HNb.out; first | (simp; done) | (simp; omega)
   rw [hK] at HK HPm
   clear hK HKh
   go_wp2_with (fail)
   refine (HK.out _).mono ?_
   rintro e w3 ⟨rfl, rfl⟩
   have HPn := hhh (HPm.out.trans (if_neg (by simp)))
   clear HPm
   have HC2 := hhh (HLo.out _ T2.out (by first | (have := HNb.out; omega) | trivial | (simp; done)) (by first | (have := HNb.out; omega) | trivial | (simp; done)) (by first | (have := HNb.out; omega) | trivial | (simp; done)) (by first | (have := HNb.out; omega) | trivial | (simp; done)))
   have HP := hhh ((((((HPn.out.trans (if_neg (by first | (have := HNb.out; omega) | trivial | (simp; done)))).trans (if_neg (by first | (have := HNb.out; omega) | trivial | (simp; done)))).trans (if_neg (by first | (have := HNb.out; omega) | trivial | (simp; done)))).trans (if_neg (by first | (have := HNb.out; omega) | trivial | (simp; done)))).trans (if_neg (by first | (have := HNb.out; omega) | trivial | (simp; done)))).trans (if_neg (by first | (have := HNb.out; omega) | trivial | (simp; done))))
   clear HPn HNb
   go_wp2_with (fail)
   refine (HC2.out).mono ?_
   rintro e w4 ⟨v, hv, h4, rfl, hs, i4, t4⟩
   have HI4 := hhh i4
   have HT4 := hhh t4
   have HS4 := hhh hs
   clear i4 t4 hs
   go_wp2
   go_ret
   rw [HP.out]
   exact ⟨_, hv, h4, rfl, HS4.out, HI4.out, T2.out.trans HT4.out⟩
  ·go_wp2_with (fail)
   refine (HX.out _).mono ?_
   rintro e w3 ⟨rfl, rfl⟩
   have HPk := hhh (HPd.out.trans (if_neg (by simp)))
   clear HPd hk HX
   have a1 : (199 : Int) ≤ (N : Int) := by have := HNb.out; omega
   have a2 : ¬ (N : Int) ≤ 201 := by have := HNb.out; omega
   have a3 : (212 : Int) ≤ (N : Int) := by have := HNb.out; omega
   have a4 : ¬ (N : Int) ≤ 216 := by have := HNb.out; omega
   have a5 : ((N : Int) == 202) = false := by rw [beq_eq_false_iff_ne]; have := HNb.out; omega
   have a6 : ((N : Int) == 203) = false := by rw [beq_eq_false_iff_ne]; have := HNb.out; omega
   have a7 : ¬ (N : Int) < 128 := by have := HNb.out; omega
   have a8 : ¬ (224 : Int) ≤ (N : Int) := by have := HNb.out; omega
   have a9 : ¬ (N : Int) < 160 := by have := HNb.out; omega
   have b2 : ¬ (N : Int) < 192 := by have := HNb.out; omega
   have b3 : ((N : Int) == 192) = false := by rw [beq_eq_false_iff_ne]; have := HNb.out; omega
   have b4 : ¬ (N : Int) ≤ 195 := by have := HNb.out; omega
   have b5 : ((N : Int) == 195) = false := by rw [beq_eq_false_iff_ne]; have := HNb.out; omega
   have HPl := hhh (HPk.out.trans (if_neg (by first | (have := HNb.out; omega) | trivial | (simp; done))))
   clear HPk
   have HPm := hhh (HPl.out.trans (if_neg (by first | (have := HNb.out; omega) | trivial | (simp; done))))
   clear HPl
   have hK : K = false := by rw [HKh.out]; have := HNb.out; first | (simp; done) | (simp; omega)
   rw [hK] at HK HPm
   clear hK HKh
   go_wp2_with (fail)
   refine (HK.out _).mono ?_
   rintro e w3 ⟨rfl, rfl⟩
   have HPn := hhh (HPm.out.trans (if_neg (by simp)))
   clear HPm
   have HC2 := hhh (HLo.out _ T2.out (by first | (have := HNb.out; omega) | trivial | (simp; done)) (by first | (have := HNb.out; omega) | trivial | (simp; done)) (by first | (have := HNb.out; omega) | trivial | (simp; done)) (by first | (have := HNb.out; omega) | trivial | (simp; done)))
   have HP := hhh ((((((HPn.out.trans (if_neg (by first | (have := HNb.out; omega) | trivial | (simp; done)))).trans (if_neg (by first | (have := HNb.out; omega) | trivial | (simp; done)))).trans (if_neg (by first | (have := HNb.out; omega) | trivial | (simp; done)))).trans (if_neg (by first | (have := HNb.out; omega) | trivial | (simp; done)))).trans (if_neg (by first | (have := HNb.out; omega) | trivial | (simp; done)))).trans (if_neg (by first | (have := HNb.out; omega) | trivial | (simp; done))))
   clear HPn HNb
   go_wp2_with (fail)
   refine (HC2.out).mono ?_
   rintro e w4 ⟨v, hv, h4, rfl, hs, i4, t4⟩
   have HI4 := hhh i4
   have HT4 := hhh t4
   have HS4 := hhh hs
   clear i4 t4 hs
   go_wp2
   go_ret
   rw [HP.out]
   exact ⟨_, hv, h4, rfl, HS4.out, HI4.out, T2.out.trans HT4.out⟩
theorem pitem_220 {n : Nat} (hi : p.Is b h) (hw : Own.Has w h) (hf : p.Fits n) (hn : n ≤ 1000000) (x : UInt8) (hlo : 220 ≤ x.toNat) (hhi : x.toNat ≤ 223) :
  Calls Tryz.prog 147 #[.pointer (some ⟨b, 0, none⟩), .int .u8 (x.toNat : Int)] w (PinDoes (p.item x) b h w) := by
 obtain ⟨N, hN⟩ : ∃ N, N = x.toNat := ⟨_, rfl⟩
 have HP0 : p.item x = if p.c.done = true ∨ N = 193 then p.on (p.c.fail 2) else if p.c.atKey = true ∧ isText x = false then p.on (p.c.fail 8) else if (199 ≤ N ∧ N ≤ 201) ∨ (212 ≤ N ∧ N ≤ 216) then p.on (p.c.fail 8)
   else if N = 202 ∨ N = 203 then p.on (p.c.fail 6) else if isContainer x = true ∧ p.c.full = true then p.on (p.c.fail 4) else if N < 128 then p.on (p.c.value (.whole false N)) else if 224 ≤ N then p.on (p.c.value (.whole true (255 - N)))
   else if N < 160 then p.count (decide (N < 144)) (N % 16) else if N < 192 then p.on (p.c.length true (N % 32)) else if N = 192 then p.on (p.c.value .null) else if N ≤ 195 then p.on (p.c.value (.bool (decide (N = 195)))) else p.long x := by rw [hN]; rfl
 have HF := hhh (fun (u : World) (t : Own.Turn h h w u) e => cfail_any hi t.has e)
 have HF0 := hhh (fun e => cfail_any hi hw e)
 have HD := hhh (cdone_any hi hw)
 have HA := hhh (catkey_any hi hw hf.c)
 have HFu := hhh (fun (u : World) (t : Own.Turn h h w u) => cfull_any hi t.has)
 have HV := hhh (fun (u : World) (t : Own.Turn h h w u) v => cvalue_any hi t.has hf.c hn v)
 have HLe := hhh (fun (u : World) (t : Own.Turn h h w u) m => clength_any hi t.has hf.c hn true m)
 have HCo := hhh (fun (u : World) (t : Own.Turn h h w u) pr m => pcount_any hi t.has hf.c hn pr m)
 have HLo := hhh (fun (u : World) (t : Own.Turn h h w u) g1 g2 g3 g4 => plong_any hi t.has x g1 g2 g3 g4)
 have HX0 := fun u => ptext_any x u
 have HK := hhh (fun u => pcontainer_any x u)
 have HXd : isText x = false := by unfold isText; simp; omega
 have HKd : isContainer x = ((decide (128 ≤ N) && decide (N ≤ 159)) || (decide (220 ≤ N) && decide (N ≤ 223))) := by rw [hN]; rfl
 rw [HXd] at HX0 HP0
 have HX := hhh HX0
 have HKh := hhh HKd
 have hltI : (N : Int) < 256 := by omega
 have HNl := hhh (show N < 256 by omega)
 have eA : bits .and .u8 (N : Int) 15 = (N : Int) % 16 := bits_mask .u8 8 (by decide) wraps_u8 4 (by decide) (N : Int) (by omega) (by omega)
 have eB : bits .and .u8 (N : Int) 31 = (N : Int) % 32 := bits_mask .u8 8 (by decide) wraps_u8 5 (by decide) (N : Int) (by omega) (by omega)
 obtain ⟨D, hD⟩ : ∃ D, D = 255 - N := ⟨_, rfl⟩
 have eX : bits .xor .u8 IntKind.u8.max (N : Int) = (D : Int) := by
  have := u8_not ⟨N, by omega⟩
  simp only at this
  show bits .xor .u8 255 (N : Int) = (D : Int)
  rw [this]
  omega
 have eW : IntKind.u64.wrap (D : Int) = (D : Int) := by rw [IntKind.wrap_u64]; omega
 rw [← hD] at HP0
 have HDl := hhh (show D < 256 by omega)
 clear hD
 have HPh := hhh HP0
 have HNb := hhh (show 220 ≤ N ∧ N ≤ 223 by omega)
 rw [← hN]
 rw [← hN] at HX HK HLo
 generalize p.item x = O at HPh ⊢
 generalize isContainer x = K at HKh HPh HK
 clear hi hw hf HP0 hN hn HXd HKd hlo hhi HX0
 have q0 : ((N : Int) == 193) = false := by rw [beq_eq_false_iff_ne]; have := HNb.out; omega
 go_enter Tryz.func147, Tryz.ntmps147
 go_wp2_with (fail)
 refine HD.out.mono ?_
 rintro e w1 ⟨rfl, rfl⟩
 cases hd : p.c.done
 case true =>
  have HP := hhh (HPh.out.trans (if_pos (.inl hd)))
  clear HPh hd
  go_wp2_with (fail)
  refine (HF0.out 2).mono ?_
  rintro e w4 ⟨v, hv, h4, rfl, hs, i4, t4⟩
  have HI4 := hhh i4
  have HT4 := hhh t4
  have HS4 := hhh hs
  clear i4 t4 hs
  go_wp2
  go_ret
  rw [HP.out]
  exact ⟨_, hv, h4, rfl, HS4.out, HI4.out, HT4.out⟩
 case false =>
  have HPd := hhh (HPh.out.trans (if_neg (by rw [hd]; first | (simp; done) | (have := HNb.out; simp; omega))))
  clear HPh hd
  go_wp2_with (fail)
  refine HA.out.mono ?_
  rintro e w2 ⟨rfl, t2⟩
  have T2 := hhh t2
  clear t2
  cases hk : p.c.atKey
  ·have HPk := hhh (HPd.out.trans (if_neg (by rw [hk]; simp)))
   clear HPd hk HX
   have a1 : (199 : Int) ≤ (N : Int) := by have := HNb.out; omega
   have a2 : ¬ (N : Int) ≤ 201 := by have := HNb.out; omega
   have a3 : (212 : Int) ≤ (N : Int) := by have := HNb.out; omega
   have a4 : ¬ (N : Int) ≤ 216 := by have := HNb.out; omega
   have a5 : ((N : Int) == 202) = false := by rw [beq_eq_false_iff_ne]; have := HNb.out; omega
   have a6 : ((N : Int) == 203) = false := by rw [beq_eq_false_iff_ne]; have := HNb.out; omega
   have a7 : ¬ (N : Int) < 128 := by have := HNb.out; omega
   have a8 : ¬ (224 : Int) ≤ (N : Int) := by have := HNb.out; omega
   have a9 : ¬ (N : Int) < 160 := by have := HNb.out; omega
   have b2 : ¬ (N : Int) < 192 := by have := HNb.out; omega
   have b3 : ((N : Int) == 192) = false := by rw [beq_eq_false_iff_ne]; have := HNb.out; omega
   have b4 : ¬ (N : Int) ≤ 195 := by have := HNb.out; omega
   have b5 : ((N : Int) == 195) = false := by rw [beq_eq_false_iff_ne]; have := HNb.out; omega
   have HPl := hhh (HPk.out.trans (if_neg (by first | (have := HNb.out; omega) | trivial | (simp; done))))
   clear HPk
   have HPm := hhh (HPl.out.trans (if_neg (by first | (have := HNb.out; omega) | trivial | (simp; done))))
   clear HPl
   have hK : K = true := by rw [HKh.out]; have := HNb.out; first | (simp; done) | (simp; omega)
   rw [hK] at HK HPm
   clear hK HKh
   go_wp2_with (fail)
   refine (HK.out _).mono ?_
   rintro e w3 ⟨rfl, rfl⟩
   go_wp2_with (fail)
   refine (HFu.out _ T2.out).mono ?_
   rintro e w5 ⟨rfl, t5⟩
   have T5 := hhh (T2.out.trans t5)
   clear t5
   cases hu : p.c.full
   ·have HPn := hhh (HPm.out.trans (if_neg (by rw [hu]; simp)))
    clear HPm hu
    have HC2 := hhh (HLo.out _ T5.out (by first | (have := HNb.out; omega) | trivial | (simp; done)) (by first | (have := HNb.out; omega) | trivial | (simp; done)) (by first | (have := HNb.out; omega) | trivial | (simp; done)) (by first | (have := HNb.out; omega) | trivial | (simp; done)))
    have HP := hhh ((((((HPn.out.trans (if_neg (by first | (have := HNb.out; omega) | trivial | (simp; done)))).trans (if_neg (by first | (have := HNb.out; omega) | trivial | (simp; done)))).trans (if_neg (by first | (have := HNb.out; omega) | trivial | (simp; done)))).trans (if_neg (by first | (have := HNb.out; omega) | trivial | (simp; done)))).trans (if_neg (by first | (have := HNb.out; omega) | trivial | (simp; done)))).trans (if_neg (by first | (have := HNb.out; omega) | trivial | (simp; done))))
    clear HPn HNb
    go_wp2_with (fail)
    refine (HC2.out).mono ?_
    rintro e w4 ⟨v, hv, h4, rfl, hs, i4, t4⟩
    have HI4 := hhh i4
    have HT4 := hhh t4
    have HS4 := hhh hs
    clear i4 t4 hs
    go_wp2
    go_ret
    rw [HP.out]
    exact ⟨_, hv, h4, rfl, HS4.out, HI4.out, T5.out.trans HT4.out⟩
   ·have HP := hhh (HPm.out.trans (if_pos (by rw [hu]; simp)))
    clear HPm hu HNb
    go_wp2_with (fail)
    refine (HF.out _ T5.out 4).mono ?_
    rintro e w4 ⟨v, hv, h4, rfl, hs, i4, t4⟩
    have HI4 := hhh i4
    have HT4 := hhh t4
    have HS4 := hhh hs
    clear i4 t4 hs
    go_wp2
    go_ret
    rw [HP.out]
    exact ⟨_, hv, h4, rfl, HS4.out, HI4.out, T5.out.trans HT4.out⟩
  ·go_wp2_with (fail)
   refine (HX.out _).mono ?_
   rintro e w3 ⟨rfl, rfl⟩
   have HP := hhh (HPd.out.trans (if_pos (by rw [hk]; simp)))
   clear HPd hk HX
   go_wp2_with (fail)
   refine (HF.out _ T2.out 8).mono ?_
   rintro e w4 ⟨v, hv, h4, rfl, hs, i4, t4⟩
   have HI4 := hhh i4
   have HT4 := hhh t4
   have HS4 := hhh hs
   clear i4 t4 hs
   go_wp2
   go_ret
   rw [HP.out]
   exact ⟨_, hv, h4, rfl, HS4.out, HI4.out, T2.out.trans HT4.out⟩
theorem pitem_224 {n : Nat} (hi : p.Is b h) (hw : Own.Has w h) (hf : p.Fits n) (hn : n ≤ 1000000) (x : UInt8) (hlo : 224 ≤ x.toNat) (hhi : x.toNat ≤ 255) :
  Calls Tryz.prog 147 #[.pointer (some ⟨b, 0, none⟩), .int .u8 (x.toNat : Int)] w (PinDoes (p.item x) b h w) := by
 obtain ⟨N, hN⟩ : ∃ N, N = x.toNat := ⟨_, rfl⟩
 have HP0 : p.item x = if p.c.done = true ∨ N = 193 then p.on (p.c.fail 2) else if p.c.atKey = true ∧ isText x = false then p.on (p.c.fail 8) else if (199 ≤ N ∧ N ≤ 201) ∨ (212 ≤ N ∧ N ≤ 216) then p.on (p.c.fail 8)
   else if N = 202 ∨ N = 203 then p.on (p.c.fail 6) else if isContainer x = true ∧ p.c.full = true then p.on (p.c.fail 4) else if N < 128 then p.on (p.c.value (.whole false N)) else if 224 ≤ N then p.on (p.c.value (.whole true (255 - N)))
   else if N < 160 then p.count (decide (N < 144)) (N % 16) else if N < 192 then p.on (p.c.length true (N % 32)) else if N = 192 then p.on (p.c.value .null) else if N ≤ 195 then p.on (p.c.value (.bool (decide (N = 195)))) else p.long x := by rw [hN]; rfl
 have HF := hhh (fun (u : World) (t : Own.Turn h h w u) e => cfail_any hi t.has e)
 have HF0 := hhh (fun e => cfail_any hi hw e)
 have HD := hhh (cdone_any hi hw)
 have HA := hhh (catkey_any hi hw hf.c)
 have HFu := hhh (fun (u : World) (t : Own.Turn h h w u) => cfull_any hi t.has)
 have HV := hhh (fun (u : World) (t : Own.Turn h h w u) v => cvalue_any hi t.has hf.c hn v)
 have HLe := hhh (fun (u : World) (t : Own.Turn h h w u) m => clength_any hi t.has hf.c hn true m)
 have HCo := hhh (fun (u : World) (t : Own.Turn h h w u) pr m => pcount_any hi t.has hf.c hn pr m)
 have HLo := hhh (fun (u : World) (t : Own.Turn h h w u) g1 g2 g3 g4 => plong_any hi t.has x g1 g2 g3 g4)
 have HX0 := fun u => ptext_any x u
 have HK := hhh (fun u => pcontainer_any x u)
 have HXd : isText x = false := by unfold isText; simp; omega
 have HKd : isContainer x = ((decide (128 ≤ N) && decide (N ≤ 159)) || (decide (220 ≤ N) && decide (N ≤ 223))) := by rw [hN]; rfl
 rw [HXd] at HX0 HP0
 have HX := hhh HX0
 have HKh := hhh HKd
 have hltI : (N : Int) < 256 := by omega
 have HNl := hhh (show N < 256 by omega)
 have eA : bits .and .u8 (N : Int) 15 = (N : Int) % 16 := bits_mask .u8 8 (by decide) wraps_u8 4 (by decide) (N : Int) (by omega) (by omega)
 have eB : bits .and .u8 (N : Int) 31 = (N : Int) % 32 := bits_mask .u8 8 (by decide) wraps_u8 5 (by decide) (N : Int) (by omega) (by omega)
 obtain ⟨D, hD⟩ : ∃ D, D = 255 - N := ⟨_, rfl⟩
 have eX : bits .xor .u8 IntKind.u8.max (N : Int) = (D : Int) := by
  have := u8_not ⟨N, by omega⟩
  simp only at this
  show bits .xor .u8 255 (N : Int) = (D : Int)
  rw [this]
  omega
 have eW : IntKind.u64.wrap (D : Int) = (D : Int) := by rw [IntKind.wrap_u64]; omega
 rw [← hD] at HP0
 have HDl := hhh (show D < 256 by omega)
 clear hD
 have HPh := hhh HP0
 have HNb := hhh (show 224 ≤ N ∧ N ≤ 255 by omega)
 rw [← hN]
 rw [← hN] at HX HK HLo
 generalize p.item x = O at HPh ⊢
 generalize isContainer x = K at HKh HPh HK
 clear hi hw hf HP0 hN hn HXd HKd hlo hhi HX0
 have q0 : ((N : Int) == 193) = false := by rw [beq_eq_false_iff_ne]; have := HNb.out; omega
 go_enter Tryz.func147, Tryz.ntmps147
 go_wp2_with (fail)
 refine HD.out.mono ?_
 rintro e w1 ⟨rfl, rfl⟩
 cases hd : p.c.done
 case true =>
  have HP := hhh (HPh.out.trans (if_pos (.inl hd)))
  clear HPh hd
  go_wp2_with (fail)
  refine (HF0.out 2).mono ?_
  rintro e w4 ⟨v, hv, h4, rfl, hs, i4, t4⟩
  have HI4 := hhh i4
  have HT4 := hhh t4
  have HS4 := hhh hs
  clear i4 t4 hs
  go_wp2
  go_ret
  rw [HP.out]
  exact ⟨_, hv, h4, rfl, HS4.out, HI4.out, HT4.out⟩
 case false =>
  have HPd := hhh (HPh.out.trans (if_neg (by rw [hd]; first | (simp; done) | (have := HNb.out; simp; omega))))
  clear HPh hd
  go_wp2_with (fail)
  refine HA.out.mono ?_
  rintro e w2 ⟨rfl, t2⟩
  have T2 := hhh t2
  clear t2
  cases hk : p.c.atKey
  ·have HPk := hhh (HPd.out.trans (if_neg (by rw [hk]; simp)))
   clear HPd hk HX
   have a1 : (199 : Int) ≤ (N : Int) := by have := HNb.out; omega
   have a2 : ¬ (N : Int) ≤ 201 := by have := HNb.out; omega
   have a3 : (212 : Int) ≤ (N : Int) := by have := HNb.out; omega
   have a4 : ¬ (N : Int) ≤ 216 := by have := HNb.out; omega
   have a5 : ((N : Int) == 202) = false := by rw [beq_eq_false_iff_ne]; have := HNb.out; omega
   have a6 : ((N : Int) == 203) = false := by rw [beq_eq_false_iff_ne]; have := HNb.out; omega
   have a7 : ¬ (N : Int) < 128 := by have := HNb.out; omega
   have a8 : (224 : Int) ≤ (N : Int) := by have := HNb.out; omega
   have HPl := hhh (HPk.out.trans (if_neg (by first | (have := HNb.out; omega) | trivial | (simp; done))))
   clear HPk
   have HPm := hhh (HPl.out.trans (if_neg (by first | (have := HNb.out; omega) | trivial | (simp; done))))
   clear HPl
   have hK : K = false := by rw [HKh.out]; have := HNb.out; first | (simp; done) | (simp; omega)
   rw [hK] at HK HPm
   clear hK HKh
   go_wp2_with (fail)
   refine (HK.out _).mono ?_
   rintro e w3 ⟨rfl, rfl⟩
   have HPn := hhh (HPm.out.trans (if_neg (by simp)))
   clear HPm
   have HP := hhh ((HPn.out.trans (if_neg (by first | (have := HNb.out; omega) | trivial | (simp; done)))).trans (if_pos (by first | (have := HNb.out; omega) | trivial | (simp; done))))
   clear HPn HNb
   go_wp2_with (fail)
   refine (HV.out _ T2.out (.whole true D)).mono ?_
   rintro e w4 ⟨v, hv, h4, rfl, hs, i4, t4⟩
   have HI4 := hhh i4
   have HT4 := hhh t4
   have HS4 := hhh hs
   clear i4 t4 hs
   go_wp2
   go_ret
   rw [HP.out]
   exact ⟨_, hv, h4, rfl, HS4.out, HI4.out, T2.out.trans HT4.out⟩
  ·go_wp2_with (fail)
   refine (HX.out _).mono ?_
   rintro e w3 ⟨rfl, rfl⟩
   have HP := hhh (HPd.out.trans (if_pos (by rw [hk]; simp)))
   clear HPd hk HX
   go_wp2_with (fail)
   refine (HF.out _ T2.out 8).mono ?_
   rintro e w4 ⟨v, hv, h4, rfl, hs, i4, t4⟩
   have HI4 := hhh i4
   have HT4 := hhh t4
   have HS4 := hhh hs
   clear i4 t4 hs
   go_wp2
   go_ret
   rw [HP.out]
   exact ⟨_, hv, h4, rfl, HS4.out, HI4.out, T2.out.trans HT4.out⟩
end
end Pip
end
end Go.Proofs.YtnnkkgglfajmhaaGreat
