/- The walks of utf.Put, and of escape.Reader's steps behind a backslash. -/
import Derived.Test.YtnpbleaikdpjiaaDoorEscU
namespace Go.Proofs.YtnpbleaikdpjiaaDoor
open Go.RowKit
namespace Esc

def shortIdx (x : UInt8) : Bool :=
  match short x with
  | none => Lib.indexByte [34, 92, 47, 98, 102, 110, 114, 116] x == -1
  | some y => decide (0 ≤ Lib.indexByte [34, 92, 47, 98, 102, 110, 114, 116] x) && decide (Lib.indexByte [34, 92, 47, 98, 102, 110, 114, 116] x < 8) && ([34, 92, 47, 8, 12, 10, 13, 9][(Lib.indexByte [34, 92, 47, 98, 102, 110, 114, 116] x).toNat]? == some y)

theorem short_idx : ∀ n : Fin 256, shortIdx (UInt8.ofNat n.val) = true := by decide +kernel

theorem short_idx' (x : UInt8) : shortIdx x = true := by
  have h1 := short_idx ⟨x.toNat, x.toNat_lt⟩
  have e : UInt8.ofNat x.toNat = x := by simp
  simpa only [e] using h1

theorem short_none (x : UInt8) (h : short x = none) : Lib.indexByte [34, 92, 47, 98, 102, 110, 114, 116] x = -1 := by
  have h1 := short_idx' x
  simp only [shortIdx, h] at h1
  exact beq_iff_eq.1 h1

theorem short_some (x y : UInt8) (h : short x = some y) : ∃ j : Nat, j < 8 ∧ Lib.indexByte [34, 92, 47, 98, 102, 110, 114, 116] x = (j : Int) ∧ [34, 92, 47, 8, 12, 10, 13, 9][j]? = some y := by
  have h1 := short_idx' x
  simp only [shortIdx, h, Bool.and_eq_true, decide_eq_true_eq, beq_iff_eq] at h1
  obtain ⟨⟨h2, h3⟩, h4⟩ := h1
  exact ⟨_, by omega, by omega, h4⟩

theorem idx_any (x : UInt8) (n : Int) (hn : Lib.indexByte [34, 92, 47, 98, 102, 110, 114, 116] x = n) (w : World) :
    Calls Tryd.prog 33 #[.string ⟨#[34, 92, 47, 98, 102, 110, 114, 116]⟩, .int .u8 x.toNat] w fun e w' => e = .returned (.int .i64 n) ∧ w = w' := by
  refine (Tryd.strings_IndexByte ⟨#[34, 92, 47, 98, 102, 110, 114, 116]⟩ (x.toNat : Int) w).mono ?_
  rintro e w' ⟨rfl, rfl⟩
  refine ⟨?_, rfl⟩
  rw [← hn, Int.toNat_natCast, show x.toNat.toUInt8 = x by simp]

def isRune (x : Int) : Bool := if x < 0 ∨ 1114111 < x ∨ (55296 ≤ x ∧ x ≤ 57343) then false else true

theorem put_any (x : Int) (h1 : -1000000000 ≤ x) (h2 : x ≤ 1000000000) (w : World) :
    Calls Tryd.prog 34 #[.int .i64 x] w fun e w' => e = .returned (.tuple #[.string ⟨(rune x).toArray⟩, .bool (isRune x)]) ∧ w = w' := by
  rcases (show x < 0 ∨ 1114111 < x ∨ (0 ≤ x ∧ x < 55296) ∨ (55296 ≤ x ∧ x ≤ 57343) ∨ (57344 ≤ x ∧ x ≤ 1114111) by omega) with h | h | ⟨h, h'⟩ | ⟨h, h'⟩ | ⟨h, h'⟩
  · have hr := Lib.hid (show rune x = [] by rw [rune, if_pos (by omega)])
    have hi := Lib.hid (show isRune x = false by rw [isRune, if_pos (by omega)])
    go_enter Tryd.func34, Tryd.ntmps34
    go_wp2
    go_ret2
    exact ⟨by rw [hr.out, hi.out]; rfl, rfl⟩
  · have hr := Lib.hid (show rune x = [] by rw [rune, if_pos (by omega)])
    have hi := Lib.hid (show isRune x = false by rw [isRune, if_pos (by omega)])
    go_enter Tryd.func34, Tryd.ntmps34
    go_wp2
    go_ret2
    exact ⟨by rw [hr.out, hi.out]; rfl, rfl⟩
  · have hr := Lib.hid (show rune x = (Utf8.encode x).data.toList by rw [rune, if_neg (by omega)])
    have hi := Lib.hid (show isRune x = true by rw [isRune, if_neg (by omega)])
    go_enter Tryd.func34, Tryd.ntmps34
    go_wp2
    go_ret2
    exact ⟨by rw [hr.out, hi.out, Mem.mk_data]; rfl, rfl⟩
  · have hr := Lib.hid (show rune x = [] by rw [rune, if_pos (by omega)])
    have hi := Lib.hid (show isRune x = false by rw [isRune, if_pos (by omega)])
    go_enter Tryd.func34, Tryd.ntmps34
    go_wp2
    go_ret2
    exact ⟨by rw [hr.out, hi.out]; rfl, rfl⟩
  · have hr := Lib.hid (show rune x = (Utf8.encode x).data.toList by rw [rune, if_neg (by omega)])
    have hi := Lib.hid (show isRune x = true by rw [isRune, if_neg (by omega)])
    go_enter Tryd.func34, Tryd.ntmps34
    go_wp2
    go_ret2
    exact ⟨by rw [hr.out, hi.out, Mem.mk_data]; rfl, rfl⟩

section
variable (w : World) (b : Nat) (T : TypeId) (pre post : List Value)

set_option maxRecDepth 100000 in
set_option maxHeartbeats 2000000 in
theorem behind_any (r : Rdr) (x : UInt8) (h : At.Is w b T pre r.enc post) :
    Calls Tryd.prog 21 #[.pointer (some ⟨b, pre.length, none⟩), .int .u8 x.toNat] w fun e w' =>
      e = .returned (.tuple #[.string ⟨(r.behind x).2.1.toArray⟩, .int .i64 (r.behind x).2.2]) ∧ At.Is w' b T pre (r.behind x).1.enc post ∧ At.Only b w w' := by
  have e117 := Int64.byte_eq x 117 117 rfl
  obtain ⟨c, state, v, n, pair, er⟩ := r
  have k4 := h.cell 4 _ rfl
  have k5 := h.cell 5 _ rfl
  have k6 := h.cell 6 _ rfl
  have g4 := h.free (pre.length + 4)
  have g5 := h.free (pre.length + 5)
  have g6 := h.free (pre.length + 6)
  have H := Lib.hid h
  clear h
  by_cases hu : x = 117
  · have HP := Lib.hid (show Rdr.behind ⟨c, state, v, n, pair, er⟩ x = (⟨c, 2, 0, 0, pair, er⟩, [], 0) by rw [Rdr.behind, if_pos hu])
    have I2 := Lib.hid (((H.out.set 4 (.int .i64 2) (Nat.le_of_ble_eq_true rfl)).set 5 (.int .i64 0) (Nat.le_of_ble_eq_true rfl)).set 6 (.int .i64 0) (Nat.le_of_ble_eq_true rfl))
    have bu : (x == 117) = true := by simp [hu]
    clear hu
    go_enter Tryd.func21, Tryd.ntmps21
    go_wp2
    go_ret2
    exact ⟨by rw [HP.out]; rfl, by rw [HP.out]; exact I2.out, (((At.Only.refl b w).set _ _).set _ _).set _ _⟩
  · have bu : (x == 117) = false := by simpa using hu
    cases hs : short x with
    | none =>
      have HP := Lib.hid (show Rdr.behind ⟨c, state, v, n, pair, er⟩ x = (⟨c, state, v, n, pair, er⟩, [], 2) by rw [Rdr.behind, if_neg hu, hs])
      have hi := Lib.hid (short_none x hs)
      clear hs hu
      go_enter Tryd.func21, Tryd.ntmps21
      go_wp2_with (fail)
      refine (idx_any x _ hi.out w).mono ?_
      rintro e w' ⟨rfl, rfl⟩
      go_wp2
      go_ret2
      exact ⟨by rw [HP.out]; rfl, by rw [HP.out]; exact H.out, At.Only.refl b w⟩
    | some y =>
      have HP := Lib.hid (show Rdr.behind ⟨c, state, v, n, pair, er⟩ x = (⟨c, 0, v, n, pair, er⟩, [y], 0) by rw [Rdr.behind, if_neg hu, hs])
      obtain ⟨j, hj, hi, hy⟩ := short_some x y hs
      have HI := Lib.hid hi
      have I2 := Lib.hid (H.out.set 4 (.int .i64 0) (Nat.le_of_ble_eq_true rfl))
      clear hs hu hi
      rcases (show j = 0 ∨ j = 1 ∨ j = 2 ∨ j = 3 ∨ j = 4 ∨ j = 5 ∨ j = 6 ∨ j = 7 by omega) with rfl | rfl | rfl | rfl | rfl | rfl | rfl | rfl
      all_goals
        have hy2 := Option.some.inj hy
        subst hy2
        clear hy hj
        go_enter Tryd.func21, Tryd.ntmps21
        go_wp2_with (fail)
        refine (idx_any x _ HI.out w).mono ?_
        rintro e w' ⟨rfl, rfl⟩
        go_wp2
        go_ret2
        exact ⟨by rw [HP.out]; rfl, by rw [HP.out]; exact I2.out, (At.Only.refl b w).set _ _⟩
end
end Esc
end Go.Proofs.YtnpbleaikdpjiaaDoor
