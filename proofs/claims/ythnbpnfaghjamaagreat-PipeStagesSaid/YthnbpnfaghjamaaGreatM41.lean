/- Texts of the walk, joined: PinS. -/
import Derived.Test.YthnbpnfaghjamaaGreatM24
import Derived.Test.YthnbpnfaghjamaaGreatM38
import Derived.Test.YthnbpnfaghjamaaGreatM40
/- packin.Parser: Step. -/
namespace Go.Proofs.YthnbpnfaghjamaaGreat
open Go.RowKit
open Json (Part)
namespace Pip

section
variable {p : Pin} {b : Nat} {h : Own.Heap} {w : World}

set_option maxRecDepth 100000 in
set_option maxHeartbeats 4000000 in
theorem pinstep_any {n : Nat} (hi : p.Is b h) (hw : Own.Has w h) (hf : p.Fits n) (hn : n ≤ 1000000) (x : UInt8) :
    Calls Tryz.prog 147 #[.pointer (some ⟨b, 0, none⟩), .int .u8 (x.toNat : Int)] w (PinTells (p.step x) b h w) := by
  obtain ⟨c3, -, -, -, -⟩ := Core.Is.cell hi hw
  obtain ⟨c12, -⟩ := hi.cells_ hw
  have TR := Lib.hid (Own.Turn.refl hw)
  have HI := Lib.hid hi
  rcases Nat.eq_zero_or_pos p.c.e with h0 | h0
  · have HP0 : p.step x = ((p.act x).1, (p.act x).2, (p.act x).1.c.e) := by unfold Pin.step; rw [if_neg (by omega)]
    have HA : p.act x = if 0 < p.c.lack then p.on (p.c.byte x) else if p.kind ≠ 0 then p.number x else p.item x := rfl
    have HL := Lib.hid (clacks_any hi hw)
    have H1 := fun (hl : 0 < p.c.lack) => (cbyte_any hi hw hf.c hn hl x)
    have H2 := fun (hk : p.kind ≠ 0) => (pnumber_any hi hw hf hn h0 hk x)
    have H4 := Lib.hid (pitem_any hi hw hf hn x)
    rw [h0] at c3
    generalize p.step x = S at HP0 ⊢
    have fin : ∀ A : Pin × List Part, p.act x = A → ∀ (v : Value) (hv h' : Own.Heap) (w' : World), Own.Slc 20 (partCells A.2) v hv → A.1.Is b h' → Own.Turn h (hv ++ h') w w' → PinTells S b h w (.returned (.tuple #[v, .int .i64 (A.1.c.e : Int)])) w' := by
      intro A hA v hv h' w' s i t
      rw [HP0, hA]
      exact ⟨v, hv, h', rfl, s, i, t⟩
    have Fin := Lib.hid fin
    have HAh := Lib.hid HA
    clear hi hw hf HP0 HA fin hn h0
    by_cases hl : 0 < p.c.lack
    · have HP := Lib.hid (HAh.out.trans (if_pos hl))
      have HC := Lib.hid (H1 hl)
      have hld : decide (0 < p.c.lack) = true := by simpa using hl
      rw [hld] at HL
      clear hl hld H1 H2 H4 HAh
      go_enter Tryz.func147, Tryz.ntmps147
      go_wp2_with (fail)
      refine HL.out.mono ?_
      rintro e w2 ⟨rfl, rfl⟩
      go_wp2_with (fail)
      refine HC.out.mono ?_
      rintro e w4 ⟨v, hv, h4, rfl, hs, i4, t4⟩
      have HI4 := Lib.hid i4
      have HT4 := Lib.hid t4
      have HS4 := Lib.hid hs
      obtain ⟨d3, -⟩ := Core.Is.cell i4 t4.has.right
      clear i4 t4 hs
      go_wp2
      go_quiet (fail)
      go_wp2
      go_ret2
      exact Fin.out _ HP.out _ _ _ _ HS4.out HI4.out (HT4.out.drewN _)
    · have HPn := HAh.out.trans (if_neg hl)
      have hld : decide (0 < p.c.lack) = false := by simpa using hl
      rw [hld] at HL
      rcases Nat.eq_zero_or_pos p.kind with hk | hk
      · have HP := Lib.hid (HPn.trans (if_neg (by omega)))
        rw [hk] at c12
        clear hl hld H1 H2 HAh HPn hk
        go_enter Tryz.func147, Tryz.ntmps147
        go_wp2_with (fail)
        refine HL.out.mono ?_
        rintro e w2 ⟨rfl, rfl⟩
        go_wp2_with (fail)
        refine H4.out.mono ?_
        rintro e w4 ⟨v, hv, h4, rfl, hs, i4, t4⟩
        have HI4 := Lib.hid i4
        have HT4 := Lib.hid t4
        have HS4 := Lib.hid hs
        obtain ⟨d3, -⟩ := Core.Is.cell i4 t4.has.right
        clear i4 t4 hs
        go_wp2
        go_quiet (fail)
        go_wp2
        go_ret2
        exact Fin.out _ HP.out _ _ _ _ HS4.out HI4.out (HT4.out.drewN _)
      · have HP := Lib.hid (HPn.trans (if_pos (by omega)))
        have H2k := Lib.hid (H2 (by omega))
        have hkb : ((p.kind : Int) != 0) = true := by rw [bne_iff_ne]; omega
        clear hl hld H1 H2 H4 HAh HPn hk
        go_enter Tryz.func147, Tryz.ntmps147
        go_wp2_with (fail)
        refine HL.out.mono ?_
        rintro e w2 ⟨rfl, rfl⟩
        go_wp2_with (fail)
        refine H2k.out.mono ?_
        rintro e w4 ⟨v, hv, h4, rfl, hs, i4, t4⟩
        have HI4 := Lib.hid i4
        have HT4 := Lib.hid t4
        have HS4 := Lib.hid hs
        obtain ⟨d3, -⟩ := Core.Is.cell i4 t4.has.right
        clear i4 t4 hs
        go_wp2
        go_quiet (fail)
        go_wp2
        go_ret2
        exact Fin.out _ HP.out _ _ _ _ HS4.out HI4.out (HT4.out.drewN _)
  · have HP := Lib.hid (show p.step x = (p, [], p.c.e) by unfold Pin.step; rw [if_pos (by omega)])
    have hne : ((p.c.e : Int) != 0) = true := by rw [bne_iff_ne]; omega
    clear hi hw hf hn h0
    go_enter Tryz.func147, Tryz.ntmps147
    go_wp2
    go_quiet (fail)
    go_wp2
    go_ret2
    rw [HP.out]
    exact ⟨_, [], h, rfl, .bare _ rfl, HI.out, TR.out.drewN _⟩

end
end Pip
end Go.Proofs.YthnbpnfaghjamaaGreat
