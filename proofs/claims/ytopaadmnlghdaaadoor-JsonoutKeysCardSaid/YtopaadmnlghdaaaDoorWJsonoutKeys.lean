/- JsonoutKeys: the walk. -/
import Derived.Test.YtopaadmnlghdaaaDoorJsonO
namespace Go.Proofs.YtopaadmnlghdaaaDoor.jsonoutKeys
open Go.RowKit Json

def W1 : Wr := ⟨[⟨true, 0⟩], false⟩
def W2 : Wr := ⟨[⟨true, 1⟩], false⟩
def W3 : Wr := ⟨[⟨true, 2⟩], false⟩
def W4 : Wr := ⟨[], true⟩

theorem s0 : Wr.zero.step text (.begins true (-1)) = ([123], 0, W1) := rfl
theorem s1 (key : ByteArray) : W1.step text (.word key) = (text (.word key), 0, W2) := rfl
theorem s2 : W2.step text .close = ([], 14, W2) := rfl
theorem s3 : W2.step text .null = ([58, 110, 117, 108, 108], 0, W3) := rfl
theorem s4 : W3.step text .close = ([125], 0, W4) := rfl
theorem sx (p : Part) (hm : p.may = true) (hw : p.isWord = false) (hc : p.isClose = false) : W1.step text p = ([], 8, W1) :=
  Wr.step_bad text W1 p hm hc rfl (by show (true && !false && !p.isWord) = true; rw [hw]; rfl)

theorem fits1 : W1.Fits 2 := ⟨by decide, by decide⟩
theorem fits2 : W2.Fits 2 := ⟨by decide, by decide⟩
theorem fits3 : W3.Fits 2 := ⟨by decide, by decide⟩

theorem text_two (key : ByteArray) : 2 ≤ (text (.word key)).length := by
  show 2 ≤ (34 :: (Esc.write key.data.toList ++ [34])).length
  simp

set_option maxRecDepth 100000 in
set_option maxHeartbeats 4000000 in
theorem walk (a0 : Evt) (a1 : ByteArray) (w : World) (w0 : a0.Fine) (_w1 : a1.size ≤ maxLen) (T : Tabs w) :
    Calls Tryd.prog 8 #[a0.val, .string a1] w fun e w' => e = .returned (.bool true) ∧ Below w.heap.size w w' := by
  have HL := Lib.hid (fun u (t : Tabs u) => alive_any u t)
  have HT := Lib.hid T
  have HB := Lib.hid (fun o => (Below.refl w.heap.size w).alloc (Nat.le_refl _) o)
  have HC := Lib.hid (fun u => of_any a0 u)
  have Hw := Lib.hid w0
  have HP := Lib.hid (fun p (h : a0.part = some p) => And.intro (a0.part_may p h) (And.intro (a0.part_kind p h) (fun hs => a0.part_small p h (w0.small hs))))
  obtain ⟨P, hP⟩ : ∃ P, P = a0.part := ⟨_, rfl⟩
  rw [← hP] at HC HP
  obtain ⟨k, y, m, t, c⟩ := a0
  clear T w0 hP
  simp only [Evt.val, Evt.cells] at *
  have FB := Lib.hid (fun (u : World) (b : Below (w.alloc (.cells #[.int .i64 k, .bool y, .int .u64 (m : Int), .string t, .int .i64 c] 34)).heap.size (w.alloc (.cells #[.int .i64 k, .bool y, .int .u64 (m : Int), .string t, .int .i64 c] 34)) u) =>
    And.intro (boxed b 0 _ rfl) (And.intro (boxed b 1 _ rfl) (And.intro (boxed b 2 _ rfl) (And.intro (boxed b 3 _ rfl) (boxed b 4 _ rfl)))))
  have BW := Lib.hid (fun (u : World) (o : Obj) (b : Below (w.alloc o).heap.size (w.alloc o) u) => ((HB.out o).trans (b.mono (by rw [size_alloc]; omega)) : Below w.heap.size w u))
  by_cases hk : a1.size ≤ 60
  · by_cases ht : t.size ≤ 100
    · have H1 := Lib.hid (show a1.size ≤ 1000 by omega)
      have hts := Lib.hid (show t.size ≤ 1000 by omega)
      go_enter Tryd.func8, Tryd.ntmps8
      go_wp2_with (fail)
      have T1 := Lib.hid (HT.out.below (HB.out (.cells #[.int .i64 k, .bool y, .int .u64 (m : Int), .string t, .int .i64 c] 34)))
      refine (HL.out _ T1.out).mono ?_
      rintro e u1 ⟨rfl, b1⟩
      obtain ⟨c0, c1, c2, c3, c4⟩ := FB.out _ b1
      go_wp2_with (fail)
      refine (HC.out _).mono ?_
      rintro e u2 ⟨rfl, b2⟩
      have B2 := Lib.hid (b1.trans (b2.mono b1.size))
      clear c0 c1 c2 c3 c4
      cases P with
      | none =>
        dsimp only [ofVal]
        go_wp2_with (fail)
        go_ret
        exact ⟨rfl, BW.out _ _ B2.out⟩
      | some p =>
        obtain ⟨pm, ⟨pw, pc⟩, ps⟩ := HP.out p rfl
        have hps := Lib.hid (ps hts.out)
        have hpm := Lib.hid pm
        have hpw := Lib.hid pw
        have hpc := Lib.hid pc
        clear pm pw pc ps
        have H0 := Lib.hid (Held.new rfl B2.out)
        have h0 := Lib.hid (H0.out.step T1.out .zero (by omega) (.begins true (-1)) trivial)
        rw [s0] at h0
        dsimp only [ofVal]
        go_wp2_with (fail)
        refine h0.out.mono ?_
        rintro e u3 ⟨rfl, g3⟩
        obtain ⟨c0, c1, c2, c3, c4⟩ := FB.out _ g3.below
        obtain ⟨A, hA⟩ : ∃ A : ByteArray, A = ⟨(text (.word a1)).toArray⟩ := ⟨_, rfl⟩
        have hAs : 2 ≤ A.size := by rw [hA]; exact text_two a1
        have hAs2 : A.size ≤ 6010 := by rw [hA]; exact text_len (.word a1) H1.out
        have HA := Lib.hid hA
        clear hA
        by_cases k3 : k = 3
        · have G3 := Lib.hid g3
          clear g3
          subst k3
          · go_wp2_with (fail)
            refine ((G3.out.step T1.out fits1 (by omega) (.word a1) H1.out)).mono ?_
            rw [s1]
            rintro e u4 ⟨rfl, g4⟩
            rw [← HA.out]
            go_wp2_with (fail)
            refine (g4.step T1.out fits2 (by omega) .close trivial).mono ?_
            rw [s2]
            rintro e u5 ⟨rfl, g5⟩
            go_wp2_with (fail)
            refine (g5.step T1.out fits2 (by omega) .null trivial).mono ?_
            rw [s3]
            rintro e u6 ⟨rfl, g6⟩
            go_wp2_with (fail)
            refine (g6.step T1.out fits3 (by omega) .close trivial).mono ?_
            rw [s4]
            rintro e u7 ⟨rfl, g7⟩
            go_wp2_with (fail)
            refine g7.done.mono ?_
            rintro e u8 ⟨rfl, rfl⟩
            have G7 := Lib.hid g7
            clear g4 g5 g6 g7
            go_wp2_with (fail)
            go_ret
            exact ⟨Own.ret_bool (decide_eq_true (by omega)), BW.out _ _ G7.out.below⟩
        · by_cases k7 : k = 7
          · have G3 := Lib.hid g3
            clear g3
            subst k7
            go_wp2_with (fail)
            refine ((G3.out.step T1.out fits1 (by omega) (.word a1) H1.out)).mono ?_
            rw [s1]
            rintro e u4 ⟨rfl, g4⟩
            rw [← HA.out]
            go_wp2_with (fail)
            refine (g4.step T1.out fits2 (by omega) .close trivial).mono ?_
            rw [s2]
            rintro e u5 ⟨rfl, g5⟩
            go_wp2_with (fail)
            refine (g5.step T1.out fits2 (by omega) .null trivial).mono ?_
            rw [s3]
            rintro e u6 ⟨rfl, g6⟩
            go_wp2_with (fail)
            refine (g6.step T1.out fits3 (by omega) .close trivial).mono ?_
            rw [s4]
            rintro e u7 ⟨rfl, g7⟩
            go_wp2_with (fail)
            refine g7.done.mono ?_
            rintro e u8 ⟨rfl, rfl⟩
            have G7 := Lib.hid g7
            clear g4 g5 g6 g7
            go_wp2_with (fail)
            go_ret
            exact ⟨Own.ret_bool (decide_eq_true (by omega)), BW.out _ _ G7.out.below⟩
          · have G2 := Lib.hid (g3.step T1.out fits1 (by omega) p hps.out)
            rw [sx p hpm.out (by rw [hpw.out]; simp [k3]) (by rw [hpc.out]; simp [k7])] at G2
            clear g3
            have hk3 : (k == 3) = false := by simp [k3]
            have hk7 : (k == 7) = false := by simp [k7]
            have hn3 : (k != 3) = true := by simp [k3]
            have hn7 : (k != 7) = true := by simp [k7]
            go_wp2_with (fail)
            refine G2.out.mono ?_
            rintro e u3b ⟨rfl, g3⟩
            have G3 := Lib.hid g3
            clear g3 c0 c1 c2 c3 c4
            go_wp2_with (fail)
            refine ((G3.out.step T1.out fits1 (by omega) (.word a1) H1.out)).mono ?_
            rw [s1]
            rintro e u4 ⟨rfl, g4⟩
            rw [← HA.out]
            go_wp2_with (fail)
            refine (g4.step T1.out fits2 (by omega) .close trivial).mono ?_
            rw [s2]
            rintro e u5 ⟨rfl, g5⟩
            go_wp2_with (fail)
            refine (g5.step T1.out fits2 (by omega) .null trivial).mono ?_
            rw [s3]
            rintro e u6 ⟨rfl, g6⟩
            go_wp2_with (fail)
            refine (g6.step T1.out fits3 (by omega) .close trivial).mono ?_
            rw [s4]
            rintro e u7 ⟨rfl, g7⟩
            go_wp2_with (fail)
            refine g7.done.mono ?_
            rintro e u8 ⟨rfl, rfl⟩
            have G7 := Lib.hid g7
            clear g4 g5 g6 g7
            go_wp2_with (fail)
            go_ret
            exact ⟨Own.ret_bool (decide_eq_true (by omega)), BW.out _ _ G7.out.below⟩
    · go_enter Tryd.func8, Tryd.ntmps8
      go_wp2_with (fail)
      have T1 := Lib.hid (HT.out.below (HB.out (.cells #[.int .i64 k, .bool y, .int .u64 (m : Int), .string t, .int .i64 c] 34)))
      refine (HL.out _ T1.out).mono ?_
      rintro e u1 ⟨rfl, b1⟩
      go_wp2
      go_ret
      exact ⟨rfl, BW.out _ _ b1⟩
  · go_enter Tryd.func8, Tryd.ntmps8
    go_wp2_with (fail)
    have T1 := Lib.hid (HT.out.below (HB.out (.cells #[.int .i64 k, .bool y, .int .u64 (m : Int), .string t, .int .i64 c] 34)))
    refine (HL.out _ T1.out).mono ?_
    rintro e u1 ⟨rfl, b1⟩
    go_wp2
    go_ret
    exact ⟨rfl, BW.out _ _ b1⟩
end Go.Proofs.YtopaadmnlghdaaaDoor.jsonoutKeys
