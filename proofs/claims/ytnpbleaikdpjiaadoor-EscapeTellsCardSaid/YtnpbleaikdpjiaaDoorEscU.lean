/- The walks of escape.Reader's inner steps. -/
import Derived.Test.YtnpbleaikdpjiaaDoorEscV
import Derived.Test.YtnpbleaikdpjiaaDoorMem
namespace Go.Proofs.YtnpbleaikdpjiaaDoor
open Go.RowKit
namespace Esc
section
variable (w : World) (b : Nat) (T : TypeId) (pre post : List Value)

set_option maxRecDepth 100000 in
set_option maxHeartbeats 1000000 in
theorem may_any (r : Rdr) (x : UInt8) (hf : r.Fits) (h : At.Is w b T pre r.enc post) :
    Calls Tryd.prog 19 #[.pointer (some ⟨b, pre.length, none⟩), .int .u8 x.toNat] w fun e w' => e = .returned (.bool (r.may x)) ∧ w = w' := by
  have c4 := h.cell 4 _ rfl
  have c6 := h.cell 6 _ rfl
  clear h
  obtain ⟨c, state, v, n, pair, er⟩ := r
  have hs : state ≤ 2 := hf.state
  clear hf
  have e92 := Int64.byte_eq x 92 92 rfl
  have e117 := Int64.byte_eq x 117 117 rfl
  rcases (show state = 0 ∨ state = 1 ∨ state = 2 by omega) with h0 | h0 | h0
  · have HM := Lib.hid (show Rdr.may ⟨c, state, v, n, pair, er⟩ x = (x == 92) by simp [Rdr.may, h0])
    subst h0
    go_enter Tryd.func19, Tryd.ntmps19
    go_wp2
    go_ret
    exact ⟨by rw [HM.out]; rfl, rfl⟩
  · have HM := Lib.hid (show Rdr.may ⟨c, state, v, n, pair, er⟩ x = (x == 117) by simp [Rdr.may, h0])
    subst h0
    go_enter Tryd.func19, Tryd.ntmps19
    go_wp2
    go_ret
    exact ⟨by rw [HM.out]; rfl, rfl⟩
  · subst h0
    by_cases n0 : n = 0
    · have HM := Lib.hid (show Rdr.may ⟨c, 2, v, n, pair, er⟩ x = (hex x == 13) by simp [Rdr.may, n0])
      subst n0
      go_enter Tryd.func19, Tryd.ntmps19
      go_wp2_with (go_at_call 31; refine (hex_any x _).mono ?_; rintro e w' ⟨rfl, rfl⟩)
      go_ret
      exact ⟨by rw [HM.out]; rfl, rfl⟩
    · by_cases n1 : n = 1
      · have HM := Lib.hid (show Rdr.may ⟨c, 2, v, n, pair, er⟩ x = decide (12 ≤ hex x) by simp [Rdr.may, n1])
        subst n1
        go_enter Tryd.func19, Tryd.ntmps19
        go_wp2_with (go_at_call 31; refine (hex_any x _).mono ?_; rintro e w' ⟨rfl, rfl⟩)
        go_ret
        exact ⟨by rw [HM.out]; rfl, rfl⟩
      · have HM := Lib.hid (show Rdr.may ⟨c, 2, v, n, pair, er⟩ x = decide (0 ≤ hex x) by simp [Rdr.may, n0, n1])
        have b0 : ((n : Int) == 0) = false := by simp; omega
        have b1 : ((n : Int) == 1) = false := by simp; omega
        clear n0 n1
        go_enter Tryd.func19, Tryd.ntmps19
        go_wp2_with (go_at_call 31; refine (hex_any x _).mono ?_; rintro e w' ⟨rfl, rfl⟩)
        go_ret
        exact ⟨by rw [HM.out]; rfl, rfl⟩

set_option maxRecDepth 100000 in
set_option maxHeartbeats 1000000 in
theorem plain_any (r : Rdr) (x : UInt8) (hf : r.Fits) (h : At.Is w b T pre r.enc post) :
    Calls Tryd.prog 20 #[.pointer (some ⟨b, pre.length, none⟩), .int .u8 x.toNat] w fun e w' =>
      e = .returned (.tuple #[.string ⟨(r.plain x).2.1.toArray⟩, .int .i64 (r.plain x).2.2]) ∧ At.Is w' b T pre (r.plain x).1.enc post ∧ At.Only b w w' := by
  have e34 := Int64.byte_eq x 34 34 rfl
  have e92 := Int64.byte_eq x 92 92 rfl
  obtain ⟨c, state, v, n, pair, er⟩ := r
  by_cases h1 : x.toNat < 32 ∨ x = 34
  · have HP := Lib.hid (show Rdr.plain ⟨c, state, v, n, pair, er⟩ x = (⟨c, state, v, n, pair, er⟩, [], 2) by rw [Rdr.plain, if_pos h1])
    have H := Lib.hid h
    clear h hf
    rcases (show x.toNat < 32 ∨ (¬ x.toNat < 32 ∧ x = 34) from (Decidable.em _).imp id fun g => ⟨g, h1.resolve_left g⟩) with h2 | ⟨h2, h3⟩
    · clear h1
      go_enter Tryd.func20, Tryd.ntmps20
      go_wp2
      go_ret2
      exact ⟨by rw [HP.out]; rfl, by rw [HP.out]; exact H.out, At.Only.refl b w⟩
    · have b34 : (x == 34) = true := by simp [h3]
      clear h1 h3
      go_enter Tryd.func20, Tryd.ntmps20
      go_wp2
      go_ret2
      exact ⟨by rw [HP.out]; rfl, by rw [HP.out]; exact H.out, At.Only.refl b w⟩
  · have hx32 : ¬ x.toNat < 32 := fun e => h1 (.inl e)
    have b34 : (x == 34) = false := by simpa using fun e => h1 (.inr e)
    have HW := Lib.hid (At.Is.head (l3 := [.int .i64 state, .int .i64 v, .int .i64 n, .int .i64 pair, .int .i64 er]) h)
    have hl : c.lack ≤ 3 := hf.lack
    clear h hf
    have Hd := Lib.hid (show Rdr.plain ⟨c, state, v, n, pair, er⟩ x = _ by rw [Rdr.plain, if_neg h1])
    clear h1
    cases hok : (c.step x).2 with
    | false =>
      have HP := Lib.hid (show Rdr.plain ⟨c, state, v, n, pair, er⟩ x = (⟨(c.step x).1, state, v, n, pair, er⟩, [], 9) by rw [Hd.out, if_pos hok])
      have Hok := Lib.hid hok
      clear hok Hd
      go_enter Tryd.func20, Tryd.ntmps20
      go_wp2_with (fail)
      refine (cstep_any w b T pre _ c x hl HW.out).mono ?_
      rintro e w1 ⟨rfl, i1, o1⟩
      rw [Hok.out]
      have I1 := Lib.hid i1
      clear i1
      go_wp2
      go_ret2
      exact ⟨by rw [HP.out]; rfl, by rw [HP.out]; exact I1.out.join, o1⟩
    | true =>
      by_cases h92 : x = 92
      · have HP := Lib.hid (show Rdr.plain ⟨c, state, v, n, pair, er⟩ x = (⟨(c.step x).1, 1, v, n, pair, er⟩, [], 0) by rw [Hd.out, if_neg (by simp [hok]), if_pos h92])
        have Hok := Lib.hid hok
        have b92 : (x == 92) = true := by simp [h92]
        clear hok Hd h92
        go_enter Tryd.func20, Tryd.ntmps20
        go_wp2_with (fail)
        refine (cstep_any w b T pre _ c x hl HW.out).mono ?_
        rintro e w1 ⟨rfl, i1, o1⟩
        rw [Hok.out]
        have I2 := Lib.hid (i1.join.set 4 (.int .i64 1) (Nat.le_of_ble_eq_true rfl))
        have k4 := i1.join.cell 4 _ rfl
        have g4 := i1.free (pre.length + 4)
        clear i1
        go_wp2
        go_ret2
        exact ⟨by rw [HP.out]; rfl, by rw [HP.out]; exact I2.out, o1.set _ _⟩
      · have HP := Lib.hid (show Rdr.plain ⟨c, state, v, n, pair, er⟩ x = (⟨(c.step x).1, state, v, n, pair, er⟩, [x], 0) by rw [Hd.out, if_neg (by simp [hok]), if_neg h92])
        have Hok := Lib.hid hok
        have b92 : (x == 92) = false := by simpa using h92
        clear hok Hd h92
        go_enter Tryd.func20, Tryd.ntmps20
        go_wp2_with (fail)
        refine (cstep_any w b T pre _ c x hl HW.out).mono ?_
        rintro e w1 ⟨rfl, i1, o1⟩
        rw [Hok.out]
        have I1 := Lib.hid i1
        clear i1
        have hcv := Mem.run_one_plain w1 (x.toNat : Int) x rfl
        go_wp2
        go_ret2
        exact ⟨by rw [HP.out]; rfl, by rw [HP.out]; exact (I1.out.alloc _).join, o1.alloc _⟩
end
end Esc
end Go.Proofs.YtnpbleaikdpjiaaDoor
