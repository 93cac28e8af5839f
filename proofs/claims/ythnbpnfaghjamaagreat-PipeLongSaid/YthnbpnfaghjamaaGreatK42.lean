/- Texts of the walk, joined. -/
import Derived.Test.YthnbpnfaghjamaaGreatK16
import Derived.Test.YthnbpnfaghjamaaGreatK40
/- truchmanref1.Base: it returns 'Base.put' of its bytes. -/
namespace Go.Proofs.YthnbpnfaghjamaaGreat
open Go.RowKit
namespace RefBase
theorem ext1 (y : Nat) (hy : y < 64) : Put.signText.extract y (y + 1) = ⟨#[Base.sign y]⟩ := by
 apply ByteArray.ext
 apply Array.toList_inj.1
 have h1 : Base.signs[y]? = some (Base.sign y) := Base.sign_get y hy
 have h2 : y < Base.signs.length := hy
 rw [List.getElem?_eq_getElem h2] at h1
 have h3 := Option.some.inj h1
 simp only [ByteArray.data_extract, Array.toList_extract, Put.signText]
 rw [List.extract_eq_take_drop, List.drop_eq_getElem_cons h2, h3, show y + 1 - y = 1 by omega]
 rfl
set_option maxHeartbeats 1000000 in
set_option maxRecDepth 100000 in
theorem any (s : ByteArray) (w : World) (hs : s.size ≤ 100000) :
  Calls Tryz.prog 23 #[.string s] w fun e w' => e = .returned (.string ⟨(Base.put s.data.toList).toArray⟩) ∧ w = w' := by
 go_enter Tryz.func23, Tryz.ntmps23
 go_wp2
 go_loop [3, 4] (fun o i => ∃ (i' : Nat) (out : ByteArray), o = .string out ∧ i = .int .i64 i' ∧ i' ≤ s.size + 2 ∧ out.size ≤ 2 * i' ∧
   out.data.toList ++ Base.put (s.data.toList.drop i') = Base.put s.data.toList) (fun _ i => s.size + 3 - (intOf i).toNat)
 case atStart => exact ⟨0, ⟨#[]⟩, rfl, rfl, by omega, by show 0 ≤ _; omega, by simp⟩
 case round =>
  obtain ⟨i, out, rfl, rfl, hi, ho, heq⟩ := hrel
  have Heq := Lib.hid heq
  clear heq
  rcases (show i + 3 ≤ s.size ∨ i + 2 = s.size ∨ i + 1 = s.size ∨ s.size ≤ i by omega) with h3 | h3 | h3 | h3
  ·have Hd := Lib.hid (Mem.drop_one s i (by omega))
   have Hd1 := Lib.hid (Mem.drop_one s (i + 1) (by omega))
   have Hd2 := Lib.hid (Mem.drop_one s (i + 2) (by omega))
   have hm : min ((s.size : Int) - (i : Int)) 3 = 3 := by omega
   have hba := (s[i]'(by omega)).toNat_lt
   have hbb := (s[i + 1]'(by omega)).toNat_lt
   have hbc := (s[i + 2]'(by omega)).toNat_lt
   obtain ⟨v, hv⟩ : ∃ v : Nat, v = ((s[i]'(by omega)).toNat * 256 + (s[i + 1]'(by omega)).toNat) * 256 + (s[i + 2]'(by omega)).toNat := ⟨_, rfl⟩
   have hv2 : (((s[i]'(by omega)).toNat : Int) * 256 + ((s[i + 1]'(by omega)).toNat : Int)) * 256 + ((s[i + 2]'(by omega)).toNat : Int) = (v : Int) := by omega
   have hvb : v < 16777216 := by omega
   obtain ⟨y0, hy0⟩ : ∃ y : Nat, y = v / 262144 % 64 := ⟨_, rfl⟩
   obtain ⟨y1, hy1⟩ : ∃ y : Nat, y = v / 4096 % 64 := ⟨_, rfl⟩
   obtain ⟨y2, hy2⟩ : ∃ y : Nat, y = v / 64 % 64 := ⟨_, rfl⟩
   obtain ⟨y3, hy3⟩ : ∃ y : Nat, y = v % 64 := ⟨_, rfl⟩
   have e0 : bits .and .i64 ((v : Int) / 262144) 63 = (y0 : Int) := by rw [hy0, ← Int64.and63 (v / 262144) (by omega)]; rfl
   have e1 : bits .and .i64 ((v : Int) / 4096) 63 = (y1 : Int) := by rw [hy1, ← Int64.and63 (v / 4096) (by omega)]; rfl
   have e2 : bits .and .i64 ((v : Int) / 64) 63 = (y2 : Int) := by rw [hy2, ← Int64.and63 (v / 64) (by omega)]; rfl
   have e3 : bits .and .i64 (v : Int) 63 = (y3 : Int) := by rw [hy3, ← Int64.and63 v (by omega)]
   have l0 : y0 < 64 := by omega
   have l1 : y1 < 64 := by omega
   have l2 : y2 < 64 := by omega
   have l3 : y3 < 64 := by omega
   have hfin : Base.put (s.data.toList.drop i) = [Base.sign y0, Base.sign y1, Base.sign y2, Base.sign y3] ++ Base.put (s.data.toList.drop (i + 3)) := by
    rw [Hd.out, Hd1.out, Hd2.out, Base.put3]
    rw [show ((s[i]'(by omega)).toNat / 4 % 64) = y0 by omega, show (((s[i]'(by omega)).toNat % 4 * 256 + (s[i + 1]'(by omega)).toNat) / 16 % 64) = y1 by omega,
     show ((((s[i]'(by omega)).toNat % 4 * 256 + (s[i + 1]'(by omega)).toNat) % 16 * 256 + (s[i + 2]'(by omega)).toNat) / 64 % 64) = y2 by omega,
     show ((((s[i]'(by omega)).toNat % 4 * 256 + (s[i + 1]'(by omega)).toNat) % 16 * 256 + (s[i + 2]'(by omega)).toNat) % 64) = y3 by omega]
    rfl
   have Hfin := Lib.hid hfin
   clear hfin hv hy0 hy1 hy2 hy3 Hd Hd1 Hd2
   go_wp2
   refine wp_loop_rounds 4 ?_
   iterate 4
    rw [rounds_succ]
    go_wp2
   refine wp_loop_rounds 5 ?_
   iterate 5
    rw [rounds_succ]
    go_wp2
   go_round
   case rel =>
    refine ⟨i + 3, out ++ ⟨#[Base.sign y0]⟩ ++ ⟨#[Base.sign y1]⟩ ++ ⟨#[Base.sign y2]⟩ ++ ⟨#[Base.sign y3]⟩, ?_, by go_num, by omega, ?_, ?_⟩
    ·rw [← ext1 y0 l0, ← ext1 y1 l1, ← ext1 y2 l2, ← ext1 y3 l3]; rfl
    ·simp only [ByteArray.size_append]
     have : ∀ x : UInt8, (⟨#[x]⟩ : ByteArray).size = 1 := fun _ => rfl
     simp only [this]
     omega
    ·rw [← Heq.out, Hfin.out]
     simp
   case measure => simp [intOf]; omega
  ·have Hd := Lib.hid (Mem.drop_one s i (by omega))
   have Hd1 := Lib.hid (Mem.drop_one s (i + 1) (by omega))
   have Hd2 := Lib.hid (Mem.drop_none s (i + 2) (by omega))
   have Hd3 := Lib.hid (Mem.drop_none s (i + 3) (by omega))
   have hm : min ((s.size : Int) - (i : Int)) 3 = 2 := by omega
   have hba := (s[i]'(by omega)).toNat_lt
   have hbb := (s[i + 1]'(by omega)).toNat_lt
   obtain ⟨v, hv⟩ : ∃ v : Nat, v = ((s[i]'(by omega)).toNat * 256 + (s[i + 1]'(by omega)).toNat) * 256 := ⟨_, rfl⟩
   have hv2 : (((s[i]'(by omega)).toNat : Int) * 256 + ((s[i + 1]'(by omega)).toNat : Int)) * 256 = (v : Int) := by omega
   have hvb : v < 16777216 := by omega
   obtain ⟨y0, hy0⟩ : ∃ y : Nat, y = v / 262144 % 64 := ⟨_, rfl⟩
   obtain ⟨y1, hy1⟩ : ∃ y : Nat, y = v / 4096 % 64 := ⟨_, rfl⟩
   obtain ⟨y2, hy2⟩ : ∃ y : Nat, y = v / 64 % 64 := ⟨_, rfl⟩
   have e0 : bits .and .i64 ((v : Int) / 262144) 63 = (y0 : Int) := by rw [hy0, ← Int64.and63 (v / 262144) (by omega)]; rfl
   have e1 : bits .and .i64 ((v : Int) / 4096) 63 = (y1 : Int) := by rw [hy1, ← Int64.and63 (v / 4096) (by omega)]; rfl
   have e2 : bits .and .i64 ((v : Int) / 64) 63 = (y2 : Int) := by rw [hy2, ← Int64.and63 (v / 64) (by omega)]; rfl
   have l0 : y0 < 64 := by omega
   have l1 : y1 < 64 := by omega
   have l2 : y2 < 64 := by omega
   have hfin : Base.put (s.data.toList.drop i) = [Base.sign y0, Base.sign y1, Base.sign y2] ++ Base.put (s.data.toList.drop (i + 3)) := by
    rw [Hd.out, Hd1.out, Hd2.out, Hd3.out]
    unfold Base.put
    rw [Base.putGo0, Base.putGo2]
    simp only [Base.putGo]
    rw [show ((0 * 256 + (s[i]'(by omega)).toNat) / 4 % 64) = y0 by omega, show (((0 * 256 + (s[i]'(by omega)).toNat) % 4 * 256 + (s[i + 1]'(by omega)).toNat) / 16 % 64) = y1 by omega,
     show ((((0 * 256 + (s[i]'(by omega)).toNat) % 4 * 256 + (s[i + 1]'(by omega)).toNat) % 16 * 2 ^ (6 - 4)) % 64) = y2 by omega]
    rfl
   have Hfin := Lib.hid hfin
   have h3' : i + 1 < s.size := by omega
   have h3'' : s.size ≤ i + 2 := by omega
   have H3 := Lib.hid h3
   clear hfin hv hy0 hy1 hy2
   go_wp2
   refine wp_loop_rounds 4 ?_
   iterate 4
    rw [rounds_succ]
    go_wp2
   refine wp_loop_rounds 4 ?_
   iterate 4
    rw [rounds_succ]
    go_wp2
   go_round
   case rel =>
    refine ⟨i + 3, out ++ ⟨#[Base.sign y0]⟩ ++ ⟨#[Base.sign y1]⟩ ++ ⟨#[Base.sign y2]⟩, ?_, by go_num, by omega, ?_, ?_⟩
    ·rw [← ext1 y0 l0, ← ext1 y1 l1, ← ext1 y2 l2]; rfl
    ·simp only [ByteArray.size_append]
     have : ∀ x : UInt8, (⟨#[x]⟩ : ByteArray).size = 1 := fun _ => rfl
     simp only [this]
     omega
    ·rw [← Heq.out, Hfin.out]
     simp
   case measure => simp [intOf]; omega
  ·have Hd := Lib.hid (Mem.drop_one s i (by omega))
   have Hd1 := Lib.hid (Mem.drop_none s (i + 1) (by omega))
   have Hd3 := Lib.hid (Mem.drop_none s (i + 3) (by omega))
   have hm : min ((s.size : Int) - (i : Int)) 3 = 1 := by omega
   have hba := (s[i]'(by omega)).toNat_lt
   obtain ⟨v, hv⟩ : ∃ v : Nat, v = (s[i]'(by omega)).toNat * 256 * 256 := ⟨_, rfl⟩
   have hv2 : ((s[i]'(by omega)).toNat : Int) * 256 * 256 = (v : Int) := by omega
   have hvb : v < 16777216 := by omega
   obtain ⟨y0, hy0⟩ : ∃ y : Nat, y = v / 262144 % 64 := ⟨_, rfl⟩
   obtain ⟨y1, hy1⟩ : ∃ y : Nat, y = v / 4096 % 64 := ⟨_, rfl⟩
   have e0 : bits .and .i64 ((v : Int) / 262144) 63 = (y0 : Int) := by rw [hy0, ← Int64.and63 (v / 262144) (by omega)]; rfl
   have e1 : bits .and .i64 ((v : Int) / 4096) 63 = (y1 : Int) := by rw [hy1, ← Int64.and63 (v / 4096) (by omega)]; rfl
   have l0 : y0 < 64 := by omega
   have l1 : y1 < 64 := by omega
   have hfin : Base.put (s.data.toList.drop i) = [Base.sign y0, Base.sign y1] ++ Base.put (s.data.toList.drop (i + 3)) := by
    rw [Hd.out, Hd1.out, Hd3.out]
    unfold Base.put
    rw [Base.putGo0]
    simp only [Base.putGo]
    rw [show ((0 * 256 + (s[i]'(by omega)).toNat) / 4 % 64) = y0 by omega, show ((0 * 256 + (s[i]'(by omega)).toNat) % 4 * 2 ^ (6 - 2) % 64) = y1 by omega]
    rfl
   have Hfin := Lib.hid hfin
   have h3' : i < s.size := by omega
   have h3'' : s.size ≤ i + 1 := by omega
   have H3 := Lib.hid h3
   clear hfin hv hy0 hy1
   go_wp2
   refine wp_loop_rounds 4 ?_
   iterate 4
    rw [rounds_succ]
    go_wp2
   refine wp_loop_rounds 3 ?_
   iterate 3
    rw [rounds_succ]
    go_wp2
   go_round
   case rel =>
    refine ⟨i + 3, out ++ ⟨#[Base.sign y0]⟩ ++ ⟨#[Base.sign y1]⟩, ?_, by go_num, by omega, ?_, ?_⟩
    ·rw [← ext1 y0 l0, ← ext1 y1 l1]; rfl
    ·simp only [ByteArray.size_append]
     have : ∀ x : UInt8, (⟨#[x]⟩ : ByteArray).size = 1 := fun _ => rfl
     simp only [this]
     omega
    ·rw [← Heq.out, Hfin.out]
     simp
   case measure => simp [intOf]; omega
  ·have hd0 := Mem.drop_none s i h3
   have Hd := Lib.hid hd0
   clear hd0
   have h5 : decide ((i : Int) < (s.size : Int)) = false := by simp; omega
   go_wp2
   go_ret
   refine ⟨?_, rfl⟩
   have := Heq.out
   rw [Hd.out] at this
   rw [← this]
   have e : Base.put [] = [] := rfl
   rw [e, List.append_nil, Mem.mk_data]
   rfl
end RefBase
end Go.Proofs.YthnbpnfaghjamaaGreat
