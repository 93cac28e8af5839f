/- HelloOnly: the walk: bytes that are a negotiation are put as they are; what stands behind does not count. -/
import Derived.Test.YthnbpnfaghjamaaGreatM34
import Derived.Test.YthnbpnfaghjamaaGreatM35
namespace Go.Proofs.YthnbpnfaghjamaaGreat.helloOnly
open Go.RowKit Pip

set_option maxRecDepth 100000 in
set_option maxHeartbeats 4000000 in
theorem walk (a0 a1 : ByteArray) (_w0 : a0.size ≤ maxLen) (_w1 : a1.size ≤ maxLen) (w : World) : Calls Tryz.prog 14 #[.string a0, .string a1] w fun e w' => e = .returned (.bool true) ∧ Below w.heap.size w w' := by
  have HA := Lib.hid (fun u => alive_any u)
  have BT := Lib.hid (fun (u v : World) (b : Below w.heap.size w u) (b2 : Below u.heap.size u v) => (b.trans (b2.mono b.size) : Below w.heap.size w v))
  have B0 := Lib.hid (fun o u (b : Below w.heap.size w u) => b.alloc b.size o)
  by_cases h0 : 60 < a0.size
  · have q0 : (60 : Int) < (a0.size : Int) := by omega
    clear h0
    go_enter Tryz.func14, Tryz.ntmps14
    go_wp2_with (fail)
    refine (HA.out _).mono ?_
    rintro e w1 ⟨rfl, b1⟩
    go_wp2
    go_ret
    exact ⟨rfl, b1⟩
  by_cases h1 : 60 < a1.size
  · have q0 : (a0.size : Int) ≤ 60 := by omega
    have q1 : (60 : Int) < (a1.size : Int) := by omega
    clear h0 h1
    go_enter Tryz.func14, Tryz.ntmps14
    go_wp2_with (fail)
    refine (HA.out _).mono ?_
    rintro e w1 ⟨rfl, b1⟩
    go_wp2
    go_ret
    exact ⟨rfl, b1⟩
  have q0 : (a0.size : Int) ≤ 60 := by omega
  have q1 : (a1.size : Int) ≤ 60 := by omega
  have HG := Lib.hid (fun u => get_any a0 u)
  have hbad := get_bad a0.data.toList
  have hgood := get_good a0.data.toList
  obtain ⟨Z, hZ⟩ : ∃ Z, Z = a0 ++ a1 := ⟨_, rfl⟩
  have HG2 := Lib.hid (fun u => get_any Z u)
  have hZl : Z.data.toList = a0.data.toList ++ a1.data.toList := by rw [hZ]; simp
  have hlen : a0.data.toList.length = a0.size := rfl
  rw [hZl] at HG2
  have hcat : a0 ++ a1 = Z := hZ.symm
  clear h0 h1 hZ hZl
  by_cases he : (helloGet a0.data.toList).2 = 0
  · obtain ⟨g1, g2, g3, g4⟩ := hgood he
    rw [g4] at HG2
    generalize helloGet a0.data.toList = G at HG HG2 he g2 g3
    obtain ⟨s, e⟩ := G
    simp only at he g2 g3 HG HG2
    subst he
    have HP := Lib.hid (fun u => hput_any s g2 u)
    rw [g3] at HP
    have i8 : (8 : Int) ≤ (a0.size : Int) := by omega
    have hx : ((⟨(a0.data.toList.take 8).toArray⟩ : ByteArray).toList == (a0.extract 0 8).toList) = true := by
      rw [ByteArray.toList_eq, ByteArray.toList_eq, extract_take]; simp
    obtain ⟨X, hX⟩ : ∃ X : ByteArray, X = ⟨(a0.data.toList.take 8).toArray⟩ := ⟨_, rfl⟩
    rw [← hX] at HP hx
    obtain ⟨f, t, d, g, l⟩ := s
    unfold Setup.val at HG HG2 HP
    simp only at HG HG2 HP
    clear g1 g2 g3 g4 hX hbad hgood hlen
    go_enter Tryz.func14, Tryz.ntmps14
    go_wp2_with (fail)
    refine (HA.out _).mono ?_
    rintro e w1 ⟨rfl, b1⟩
    have HB1 := Lib.hid b1
    clear b1
    go_wp2_with (fail)
    refine (HG.out _).mono ?_
    rintro e w2 ⟨rfl, b2⟩
    have HB2 := Lib.hid (BT.out _ _ HB1.out b2)
    have TA := Lib.hid ((Own.Turn.refl (Own.Has.nil w2)).allocRow w2.heap.size rfl 23 [.int .i64 f, .int .i64 t, .int .i64 d, .int .i64 g, .int .i64 l])
    clear b2
    go_wp2_with (fail)
    refine (HP.out _).mono ?_
    rintro e w3 ⟨rfl, b3⟩
    have HB3 := Lib.hid (BT.out _ _ (B0.out _ _ HB2.out) b3)
    have TB := Lib.hid (TA.out.trans (Own.Turn.of_below TA.out.has b3))
    clear b3
    go_wp2_with (fail)
    refine (HG2.out _).mono ?_
    rintro e w4 ⟨rfl, b4⟩
    have HB4 := Lib.hid (B0.out (.cells #[.int .i64 f, .int .i64 t, .int .i64 d, .int .i64 g, .int .i64 l] 23) _ (BT.out _ _ HB3.out b4))
    have TC := Lib.hid ((TB.out.trans (Own.Turn.of_below TB.out.has b4)).litter (.cells #[.int .i64 f, .int .i64 t, .int .i64 d, .int .i64 g, .int .i64 l] 23))
    have c0 := TC.out.has.cell w2.heap.size _ _ (List.mem_cons_self ..) 0 _ rfl
    have c1 := TC.out.has.cell w2.heap.size _ _ (List.mem_cons_self ..) 1 _ rfl
    have c2 := TC.out.has.cell w2.heap.size _ _ (List.mem_cons_self ..) 2 _ rfl
    have c3 := TC.out.has.cell w2.heap.size _ _ (List.mem_cons_self ..) 3 _ rfl
    have c4 := TC.out.has.cell w2.heap.size _ _ (List.mem_cons_self ..) 4 _ rfl
    clear b4
    go_wp2
    go_ret
    exact ⟨rfl, HB4.out⟩
  · have h2 := hbad he
    generalize helloGet a0.data.toList = G at HG he h2
    obtain ⟨s, e⟩ := G
    simp only at he h2 HG
    subst h2
    unfold Setup.val Setup.zero at HG
    simp only at HG
    have he' : ((e : Int) != 0) = true := by rw [bne_iff_ne]; omega
    clear he hgood hbad HG2 hlen
    go_enter Tryz.func14, Tryz.ntmps14
    go_wp2_with (fail)
    refine (HA.out _).mono ?_
    rintro e w1 ⟨rfl, b1⟩
    have HB1 := Lib.hid b1
    clear b1
    go_wp2_with (fail)
    refine (HG.out _).mono ?_
    rintro e w2 ⟨rfl, b2⟩
    have HB2 := Lib.hid (BT.out _ _ HB1.out b2)
    clear b2
    go_wp2
    go_ret
    exact ⟨rfl, B0.out _ _ HB2.out⟩
end Go.Proofs.YthnbpnfaghjamaaGreat.helloOnly
