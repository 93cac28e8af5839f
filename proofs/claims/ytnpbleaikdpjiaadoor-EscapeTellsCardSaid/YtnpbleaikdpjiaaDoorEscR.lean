/- The walks of escape.Reader's Step and Whole. -/
import Derived.Test.YtnpbleaikdpjiaaDoorEscS
namespace Go.Proofs.YtnpbleaikdpjiaaDoor
open Go.RowKit
namespace Esc

def stepOut (o : Rdr × List UInt8 × Nat) : Ending := .returned (.tuple #[.string ⟨o.2.1.toArray⟩, .int .i64 o.2.2])

theorem latch_enc (o : Rdr × List UInt8 × Nat) : o.1.enc.set 8 (.int .i64 o.2.2) = (latch o).1.enc := rfl

section
variable (w : World) (b : Nat) (T : TypeId) (pre post : List Value)

set_option maxRecDepth 100000 in
set_option maxHeartbeats 1000000 in
theorem step_plain_any (c : Chk) (v n pair : Nat) (x : UInt8) (hf : Rdr.Fits ⟨c, 0, v, n, pair, 0⟩) (h : At.Is w b T pre (Rdr.enc ⟨c, 0, v, n, pair, 0⟩) post) (hp : pair = 0 ∨ (0 < pair ∧ Rdr.may ⟨c, 0, v, n, pair, 0⟩ x = true)) :
    Calls Tryd.prog 11 #[.pointer (some ⟨b, pre.length, none⟩), .int .u8 x.toNat] w fun e w' =>
      e = stepOut (latch (Rdr.plain ⟨c, 0, v, n, pair, 0⟩ x)) ∧ At.Is w' b T pre (latch (Rdr.plain ⟨c, 0, v, n, pair, 0⟩ x)).1.enc post ∧ At.Only b w w' := by
  have k4 := h.cell 4 _ rfl
  have k7 := h.cell 7 _ rfl
  have k8 := h.cell 8 _ rfl
  have H := Lib.hid h
  have HF := Lib.hid hf
  clear h hf
  rcases hp with rfl | ⟨hp, hm⟩
  · go_enter Tryd.func11, Tryd.ntmps11
    go_wp2_with (fail)
    refine (plain_any w b T pre post _ x HF.out H.out).mono ?_
    rintro e w1 ⟨rfl, i1, o1⟩
    have g8 := i1.free (pre.length + 8)
    have k8' := i1.cell 8 _ rfl
    have I2 := Lib.hid (i1.set 8 (.int .i64 (Rdr.plain ⟨c, 0, v, n, 0, 0⟩ x).2.2) (Nat.le_of_ble_eq_true rfl))
    clear i1
    go_wp2
    go_quiet (fail)
    go_wp2
    go_ret2
    exact ⟨rfl, I2.out.drewN _, (o1.set _ _).drewN _⟩
  · have HM := Lib.hid hm
    clear hm
    go_enter Tryd.func11, Tryd.ntmps11
    go_wp2_with (fail)
    refine (may_any w b T pre post _ x HF.out H.out).mono ?_
    rintro e w' ⟨rfl, rfl⟩
    rw [HM.out]
    go_wp2_with (fail)
    refine (plain_any w b T pre post _ x HF.out H.out).mono ?_
    rintro e w1 ⟨rfl, i1, o1⟩
    have g8 := i1.free (pre.length + 8)
    have k8' := i1.cell 8 _ rfl
    have I2 := Lib.hid (i1.set 8 (.int .i64 (Rdr.plain ⟨c, 0, v, n, pair, 0⟩ x).2.2) (Nat.le_of_ble_eq_true rfl))
    clear i1
    go_wp2
    go_quiet (fail)
    go_wp2
    go_ret2
    exact ⟨rfl, I2.out.drewN _, (o1.set _ _).drewN _⟩

set_option maxRecDepth 100000 in
set_option maxHeartbeats 1000000 in
theorem step_behind_any (c : Chk) (v n pair : Nat) (x : UInt8) (hf : Rdr.Fits ⟨c, 1, v, n, pair, 0⟩) (h : At.Is w b T pre (Rdr.enc ⟨c, 1, v, n, pair, 0⟩) post) (hp : pair = 0 ∨ (0 < pair ∧ Rdr.may ⟨c, 1, v, n, pair, 0⟩ x = true)) :
    Calls Tryd.prog 11 #[.pointer (some ⟨b, pre.length, none⟩), .int .u8 x.toNat] w fun e w' =>
      e = stepOut (latch (Rdr.behind ⟨c, 1, v, n, pair, 0⟩ x)) ∧ At.Is w' b T pre (latch (Rdr.behind ⟨c, 1, v, n, pair, 0⟩ x)).1.enc post ∧ At.Only b w w' := by
  have k4 := h.cell 4 _ rfl
  have k7 := h.cell 7 _ rfl
  have k8 := h.cell 8 _ rfl
  have H := Lib.hid h
  have HF := Lib.hid hf
  clear h hf
  rcases hp with rfl | ⟨hp, hm⟩
  · go_enter Tryd.func11, Tryd.ntmps11
    go_wp2_with (fail)
    refine (behind_any w b T pre post _ x H.out).mono ?_
    rintro e w1 ⟨rfl, i1, o1⟩
    have g8 := i1.free (pre.length + 8)
    have k8' := i1.cell 8 _ rfl
    have I2 := Lib.hid (i1.set 8 (.int .i64 (Rdr.behind ⟨c, 1, v, n, 0, 0⟩ x).2.2) (Nat.le_of_ble_eq_true rfl))
    clear i1
    go_wp2
    go_quiet (fail)
    go_wp2
    go_ret2
    exact ⟨rfl, I2.out.drewN _, (o1.set _ _).drewN _⟩
  · have HM := Lib.hid hm
    clear hm
    go_enter Tryd.func11, Tryd.ntmps11
    go_wp2_with (fail)
    refine (may_any w b T pre post _ x HF.out H.out).mono ?_
    rintro e w' ⟨rfl, rfl⟩
    rw [HM.out]
    go_wp2_with (fail)
    refine (behind_any w b T pre post _ x H.out).mono ?_
    rintro e w1 ⟨rfl, i1, o1⟩
    have g8 := i1.free (pre.length + 8)
    have k8' := i1.cell 8 _ rfl
    have I2 := Lib.hid (i1.set 8 (.int .i64 (Rdr.behind ⟨c, 1, v, n, pair, 0⟩ x).2.2) (Nat.le_of_ble_eq_true rfl))
    clear i1
    go_wp2
    go_quiet (fail)
    go_wp2
    go_ret2
    exact ⟨rfl, I2.out.drewN _, (o1.set _ _).drewN _⟩

set_option maxRecDepth 100000 in
set_option maxHeartbeats 1000000 in
theorem step_digit_any (c : Chk) (v n pair : Nat) (x : UInt8) (hf : Rdr.Fits ⟨c, 2, v, n, pair, 0⟩) (h : At.Is w b T pre (Rdr.enc ⟨c, 2, v, n, pair, 0⟩) post) (hp : pair = 0 ∨ (0 < pair ∧ Rdr.may ⟨c, 2, v, n, pair, 0⟩ x = true)) :
    Calls Tryd.prog 11 #[.pointer (some ⟨b, pre.length, none⟩), .int .u8 x.toNat] w fun e w' =>
      e = stepOut (latch (Rdr.digit ⟨c, 2, v, n, pair, 0⟩ x)) ∧ At.Is w' b T pre (latch (Rdr.digit ⟨c, 2, v, n, pair, 0⟩ x)).1.enc post ∧ At.Only b w w' := by
  have k4 := h.cell 4 _ rfl
  have k7 := h.cell 7 _ rfl
  have k8 := h.cell 8 _ rfl
  have H := Lib.hid h
  have HF := Lib.hid hf
  clear h hf
  rcases hp with rfl | ⟨hp, hm⟩
  · go_enter Tryd.func11, Tryd.ntmps11
    go_wp2_with (fail)
    refine (digit_any w b T pre post _ x HF.out H.out).mono ?_
    rintro e w1 ⟨rfl, i1, o1⟩
    have g8 := i1.free (pre.length + 8)
    have k8' := i1.cell 8 _ rfl
    have I2 := Lib.hid (i1.set 8 (.int .i64 (Rdr.digit ⟨c, 2, v, n, 0, 0⟩ x).2.2) (Nat.le_of_ble_eq_true rfl))
    clear i1
    go_wp2
    go_quiet (fail)
    go_wp2
    go_ret2
    exact ⟨rfl, I2.out.drewN _, (o1.set _ _).drewN _⟩
  · have HM := Lib.hid hm
    clear hm
    go_enter Tryd.func11, Tryd.ntmps11
    go_wp2_with (fail)
    refine (may_any w b T pre post _ x HF.out H.out).mono ?_
    rintro e w' ⟨rfl, rfl⟩
    rw [HM.out]
    go_wp2_with (fail)
    refine (digit_any w b T pre post _ x HF.out H.out).mono ?_
    rintro e w1 ⟨rfl, i1, o1⟩
    have g8 := i1.free (pre.length + 8)
    have k8' := i1.cell 8 _ rfl
    have I2 := Lib.hid (i1.set 8 (.int .i64 (Rdr.digit ⟨c, 2, v, n, pair, 0⟩ x).2.2) (Nat.le_of_ble_eq_true rfl))
    clear i1
    go_wp2
    go_quiet (fail)
    go_wp2
    go_ret2
    exact ⟨rfl, I2.out.drewN _, (o1.set _ _).drewN _⟩

set_option maxRecDepth 100000 in
set_option maxHeartbeats 1000000 in
theorem step_any (r : Rdr) (x : UInt8) (hf : r.Fits) (h : At.Is w b T pre r.enc post) :
    Calls Tryd.prog 11 #[.pointer (some ⟨b, pre.length, none⟩), .int .u8 x.toNat] w fun e w' =>
      e = stepOut (r.step x) ∧ At.Is w' b T pre (r.step x).1.enc post ∧ At.Only b w w' := by
  obtain ⟨c, state, v, n, pair, er⟩ := r
  have hs : state ≤ 2 := hf.state
  by_cases he : er = 0
  · subst he
    by_cases hp : 0 < pair ∧ Rdr.may ⟨c, state, v, n, pair, 0⟩ x = false
    · have HS := Lib.hid (show Rdr.step ⟨c, state, v, n, pair, 0⟩ x = (⟨c, state, v, n, pair, 9⟩, [], 9) by rw [Rdr.step, if_neg (by simp), if_pos hp])
      obtain ⟨hp, hm⟩ := hp
      have k7 := h.cell 7 _ rfl
      have k8 := h.cell 8 _ rfl
      have g8 := h.free (pre.length + 8)
      have H := Lib.hid h
      have HF := Lib.hid hf
      have HM := Lib.hid hm
      have I2 := Lib.hid (h.set 8 (.int .i64 9) (Nat.le_of_ble_eq_true rfl))
      clear h hf hm
      go_enter Tryd.func11, Tryd.ntmps11
      go_wp2_with (fail)
      refine (may_any w b T pre post _ x HF.out H.out).mono ?_
      rintro e w' ⟨rfl, rfl⟩
      rw [HM.out]
      go_wp2
      go_quiet (fail)
      go_wp2
      go_ret2
      exact ⟨by rw [HS.out]; rfl, by rw [HS.out]; exact I2.out.drewN _, ((At.Only.refl b w).set _ _).drewN _⟩
    · have hp2 : pair = 0 ∨ (0 < pair ∧ Rdr.may ⟨c, state, v, n, pair, 0⟩ x = true) := by
        by_cases h0 : pair = 0
        · exact .inl h0
        · refine .inr ⟨by omega, ?_⟩
          cases hm : Rdr.may ⟨c, state, v, n, pair, 0⟩ x with
          | true => rfl
          | false => exact absurd ⟨by omega, hm⟩ hp
      have hS : Rdr.step ⟨c, state, v, n, pair, 0⟩ x = if state = 0 then latch (Rdr.plain ⟨c, state, v, n, pair, 0⟩ x) else if state = 1 then latch (Rdr.behind ⟨c, state, v, n, pair, 0⟩ x) else latch (Rdr.digit ⟨c, state, v, n, pair, 0⟩ x) := by
        rw [Rdr.step, if_neg (by simp), if_neg hp]
      rw [hS]
      rcases (show state = 0 ∨ state = 1 ∨ state = 2 by omega) with rfl | rfl | rfl
      · exact step_plain_any w b T pre post c v n pair x hf h hp2
      · exact step_behind_any w b T pre post c v n pair x hf h hp2
      · exact step_digit_any w b T pre post c v n pair x hf h hp2
  · have HS := Lib.hid (show Rdr.step ⟨c, state, v, n, pair, er⟩ x = (⟨c, state, v, n, pair, er⟩, [], er) by rw [Rdr.step, if_pos he])
    have k8 := h.cell 8 _ rfl
    have he2 : ((er : Int) != 0) = true := by simp; omega
    have H := Lib.hid h
    clear h hf he
    go_enter Tryd.func11, Tryd.ntmps11
    go_wp2
    go_quiet (fail)
    go_wp2
    go_ret2
    exact ⟨by rw [HS.out]; rfl, by rw [HS.out]; exact H.out.drewN _, (At.Only.refl b w).drewN _⟩

set_option maxRecDepth 100000 in
set_option maxHeartbeats 1000000 in
theorem whole_any (r : Rdr) (h : At.Is w b T pre r.enc post) :
    Calls Tryd.prog 12 #[.pointer (some ⟨b, pre.length, none⟩)] w fun e w' => e = .returned (.bool r.whole) ∧ w = w' := by
  obtain ⟨c, state, v, n, pair, er⟩ := r
  have k4 := h.cell 4 _ rfl
  have k7 := h.cell 7 _ rfl
  have k8 := h.cell 8 _ rfl
  have HW := Lib.hid (At.Is.head (l3 := [.int .i64 state, .int .i64 v, .int .i64 n, .int .i64 pair, .int .i64 er]) h)
  clear h
  by_cases h1 : er = 0
  · by_cases h2 : state = 0
    · by_cases h3 : pair = 0
      · subst h1 h2 h3
        have HS := Lib.hid (show Rdr.whole ⟨c, 0, v, n, 0, 0⟩ = c.whole by simp [Rdr.whole])
        go_enter Tryd.func12, Tryd.ntmps12
        go_wp2_with (fail)
        refine (cwhole_any w b T pre _ c HW.out).mono ?_
        rintro e w' ⟨rfl, rfl⟩
        go_wp2
        go_ret
        exact ⟨by rw [HS.out]; rfl, rfl⟩
      · subst h1 h2
        have HS := Lib.hid (show Rdr.whole ⟨c, 0, v, n, pair, 0⟩ = false by simp [Rdr.whole, h3])
        have b3 : ((pair : Int) == 0) = false := by simp; omega
        clear h3
        go_enter Tryd.func12, Tryd.ntmps12
        go_wp2
        go_ret
        exact ⟨by rw [HS.out]; rfl, rfl⟩
    · subst h1
      have HS := Lib.hid (show Rdr.whole ⟨c, state, v, n, pair, 0⟩ = false by simp [Rdr.whole, h2])
      have b3 : ((state : Int) == 0) = false := by simp; omega
      clear h2
      go_enter Tryd.func12, Tryd.ntmps12
      go_wp2
      go_ret
      exact ⟨by rw [HS.out]; rfl, rfl⟩
  · have HS := Lib.hid (show Rdr.whole ⟨c, state, v, n, pair, er⟩ = false by simp [Rdr.whole, h1])
    have b3 : ((er : Int) == 0) = false := by simp; omega
    clear h1
    go_enter Tryd.func12, Tryd.ntmps12
    go_wp2
    go_ret
    exact ⟨by rw [HS.out]; rfl, rfl⟩
end
end Esc
end Go.Proofs.YtnpbleaikdpjiaaDoor
