/- Texts of the walk, joined: PpU, KdL. -/
import Derived.Test.YthnbpnfaghjamaaGreatM08
import Derived.Test.YthnbpnfaghjamaaGreatM42
/- JSON's texts of numbers of one digit, whatever the tables hold. -/
namespace Go.Proofs.YthnbpnfaghjamaaGreat
open Go.RowKit Go.Sort Go.Shelf
open Json (Part Wr Txt)
namespace Pip

set_option maxHeartbeats 4000000 in
set_option maxRecDepth 100000 in
theorem fmtIn_few (u : Nat) (hs : u < 100) (w : World) :
    Calls Tryz.prog 167 #[.int .u64 (u : Int), .int .i64 10] w fun e w' => e = .returned (.string ⟨(Lib.decDigits u).toArray⟩) ∧ Below w.heap.size w w' := by
  have hc : (u : Int) < 100 := by omega
  have hw : IntKind.i64.wrap (u : Int) = (u : Int) := by rw [IntKind.wrap_i64]; omega
  go_enter Tryz.func167, Tryz.ntmps167
  go_wp2_with (go_at_call 172; refine (Tryz.internal_strconv_small u hs _).mono ?_; rintro e w' ⟨rfl, rfl⟩)
  go_ret
  exact ⟨rfl, Below.refl _ _⟩

theorem fmt_few (u : Nat) (hs : u < 100) (w : World) :
    Calls Tryz.prog 163 #[.int .u64 (u : Int), .int .i64 10] w fun e w' => e = .returned (.string ⟨(Lib.decDigits u).toArray⟩) ∧ Below w.heap.size w w' := by
  have H := Lib.hid (fmtIn_few u hs w)
  clear hs
  go_enter Tryz.func163, Tryz.ntmps163
  go_wp2_with (fail)
  refine H.out.mono ?_
  rintro e w' ⟨rfl, b⟩
  go_wp2
  go_ret
  exact ⟨rfl, b⟩

theorem print_few (mag : Nat) (hm : mag < 100) (w : World) :
    Calls Tryz.prog 160 #[.agg #[.bool false, .int .u64 (mag : Int)]] w fun e w' => e = .returned (.string ⟨(Lib.decDigits mag).toArray⟩) ∧ Below w.heap.size w w' := by
  have B0 := Lib.hid (fun o => (Below.refl w.heap.size w).alloc (Nat.le_refl _) o)
  have HM := Lib.hid hm
  have bel : ∀ {W : World} {o : Obj}, Below (w.alloc o).heap.size (w.alloc o) W → Below w.heap.size w W := fun {W o} b => (B0.out o).trans (b.mono (by rw [Json.size_alloc]; omega))
  have Bel := @Lib.hid _ @bel
  clear bel hm
  go_enter Tryz.func160, Tryz.ntmps160
  go_wp2_with (fail)
  refine (fmt_few mag HM.out _).mono ?_
  rintro e w' ⟨rfl, b⟩
  go_wp2
  go_ret
  exact ⟨rfl, Bel.out b⟩

theorem plainJ_few (m : Nat) (hm : m < 100) (w : World) :
    Calls Tryz.prog 159 #[(Part.whole false m).val] w fun e w' => e = .returned (.string ⟨(Lib.decDigits m).toArray⟩) ∧ Below w.heap.size w w' := by
  have a1 := Json.asBool (.whole false m)
  have a2 := Json.asWhole (.whole false m)
  have a3 := Json.asWord (.whole false m)
  have a4 := Json.asBlob (.whole false m)
  have B0 := Lib.hid (fun o => (Below.refl w.heap.size w).alloc (Nat.le_refl _) o)
  have bel : ∀ {W : World} {o : Obj}, Below (w.alloc o).heap.size (w.alloc o) W → Below w.heap.size w W := fun {W o} b => (B0.out o).trans (b.mono (by rw [Json.size_alloc]; omega))
  have Bel := @Lib.hid _ @bel
  clear bel
  have HP := Lib.hid (fun u => print_few m hm u)
  obtain ⟨V, hV⟩ : ∃ V, V = (Part.whole false m).val := ⟨_, rfl⟩
  rw [← hV] at a1 a2 a3 a4 ⊢
  simp only [Json.Part.isBool, Json.Part.inBool, Json.Part.isWhole, Json.Part.inWhole, Json.Part.isWord, Json.Part.inWord, Json.Part.isBlob, Json.Part.inBlob] at a1 a2 a3 a4
  clear hV hm
  go_enter Tryz.func159, Tryz.ntmps159
  go_wp2_with (fail)
  refine (HP.out _).mono ?_
  rintro e W ⟨rfl, b⟩
  go_wp2
  go_ret
  exact ⟨rfl, Bel.out b⟩

/-- A container's end, as if it were plain. -/
theorem plainJ_close (w : World) :
    Calls Tryz.prog 159 #[Part.close.val] w fun e w' => e = .returned (.string ⟨([110, 117, 108, 108] : List UInt8).toArray⟩) ∧ Below w.heap.size w w' := by
  have a1 := Json.asBool .close
  have a2 := Json.asWhole .close
  have a3 := Json.asWord .close
  have a4 := Json.asBlob .close
  have B0 := Lib.hid (fun o => (Below.refl w.heap.size w).alloc (Nat.le_refl _) o)
  obtain ⟨V, hV⟩ : ∃ V, V = Part.close.val := ⟨_, rfl⟩
  rw [← hV] at a1 a2 a3 a4 ⊢
  rw [show Part.close.isBool = false from rfl, show Part.close.inBool = .bool false from rfl] at a1
  rw [show Part.close.isWhole = false from rfl, show Part.close.inWhole = .agg #[.bool false, .int .u64 0] from rfl] at a2
  rw [show Part.close.isWord = false from rfl, show Part.close.inWord = .string ⟨#[]⟩ from rfl] at a3
  rw [show Part.close.isBlob = false from rfl, show Part.close.inBlob = .string ⟨#[]⟩ from rfl] at a4
  clear hV
  go_enter Tryz.func159, Tryz.ntmps159
  go_wp2
  go_ret
  exact ⟨rfl, B0.out _⟩

/-- Begins, ends, numbers of one digit. -/
def fewB : Part → Bool
  | .begins _ _ => true
  | .close => true
  | .whole false m => decide (m < 10)
  | _ => false
def textF : Part → List UInt8
  | .whole false m => [UInt8.ofNat (48 + m)]
  | _ => [110, 117, 108, 108]

theorem digits_one (m : Nat) (h : m < 10) : Lib.decDigits m = [UInt8.ofNat (48 + m)] := by
  have : m = 0 ∨ m = 1 ∨ m = 2 ∨ m = 3 ∨ m = 4 ∨ m = 5 ∨ m = 6 ∨ m = 7 ∨ m = 8 ∨ m = 9 := by omega
  rcases this with rfl | rfl | rfl | rfl | rfl | rfl | rfl | rfl | rfl | rfl <;> simp [Lib.decDigits]

theorem txt_few : Txt (fun p => fewB p = true) textF 0 (fun _ => True) where
  len p _ := by
    cases p with
    | whole n m => cases n <;> simp [textF]
    | _ => simp [textF]
  any p hp u _ := by
    cases p with
    | begins m c => exact plainJ_begin m c u
    | close => exact plainJ_close u
    | whole n m =>
      cases n with
      | false =>
        have h : m < 10 := by simpa [fewB] using hp
        have := plainJ_few m (by omega) u
        rw [digits_one m h] at this
        exact this
      | true => cases hp
    | _ => cases hp
  of _ _ _ _ := trivial
end Pip
end Go.Proofs.YthnbpnfaghjamaaGreat

/- PipeKinds in plain Lean; what Batch answers there. -/
namespace Go.Proofs.YthnbpnfaghjamaaGreat
open Go.RowKit
open Json (Part Wr)
namespace Pip

def kbad (r : Nat) : List UInt8 := match r with | 0 => [249, 0, 0] | 1 => [193, 1] | 2 => [247] | 3 => [224] | 4 => [28] | 5 => [255] | _ => [161, 1, 2]
def kwant (r : Nat) : Nat := match r with | 0 => 6 | 1 => 8 | 2 => 8 | 3 => 8 | 4 => 2 | 5 => 2 | _ => 8
def kset (t : Nat) : Setup := ⟨2, t, 4, 100, 0⟩
def kindOk (t r : Nat) : Bool :=
  (batch textF (kset t) (130 :: 1 :: kbad r)).2 == kwant r && (batch textF (kset t) [130, 1]).2 == 3 &&
    (if r = 6 then decide ((batch textF (kset t) [130, 1]).1.length < (batch textF (kset t) (130 :: 1 :: kbad r)).1.length) && (batch textF (kset t) (130 :: 1 :: kbad r)).1.take (batch textF (kset t) [130, 1]).1.length == (batch textF (kset t) [130, 1]).1
      else (batch textF (kset t) (130 :: 1 :: kbad r)).1 == (batch textF (kset t) [130, 1]).1) &&
    (t != 1 || ((Pp.new (kset t)).toldR fewB textF (130 :: 1 :: kbad r) && (Pp.new (kset t)).toldR fewB textF [130, 1]))

set_option maxRecDepth 100000 in
theorem kind_all : ((List.range 3).all fun t => (List.range 7).all fun r => kindOk (t + 1) r) = true := by decide +kernel

theorem batch_few (s : Setup) (hr : right s = true) (l : List UInt8) (hb : l.length ≤ 1000) (told : (Writer.new s.to).kind = 1 → (Pp.new s).toldR fewB textF l = true) (w : World) :
    Calls Tryz.prog 21 #[s.val, .string ⟨l.toArray⟩] w fun e w' => e = .returned (.tuple #[.string ⟨(batch textF s l).1.toArray⟩, .int .i64 ((batch textF s l).2 : Int)]) ∧ Below w.heap.size w w' :=
  batch_with txt_few s hr ⟨l.toArray⟩ (by show l.toArray.size ≤ 1000; simpa using hb) (fun h => Pp.toldR_told _ _ _ _ (told h)) w (Nat.zero_le _) trivial

theorem writer_one (t : Nat) (t1 : 1 ≤ t) (t3 : t ≤ 3) : (Writer.new (t : Int)).kind = 1 → t = 1 := by
  have ht : t = 1 ∨ t = 2 ∨ t = 3 := by omega
  rcases ht with rfl | rfl | rfl <;> decide

theorem kind_batch (t r : Nat) (t1 : 1 ≤ t) (t3 : t ≤ 3) (r6 : r ≤ 6) : ∃ X Y : ByteArray,
    (∀ w, Calls Tryz.prog 21 #[.agg #[.int .i64 2, .int .i64 (t : Int), .int .i64 4, .int .i64 100, .int .i64 0], .string ⟨(130 :: 1 :: kbad r).toArray⟩] w fun e w' => e = .returned (.tuple #[.string X, .int .i64 (kwant r : Int)]) ∧ Below w.heap.size w w') ∧
    (∀ w, Calls Tryz.prog 21 #[.agg #[.int .i64 2, .int .i64 (t : Int), .int .i64 4, .int .i64 100, .int .i64 0], .string ⟨([130, 1] : List UInt8).toArray⟩] w fun e w' => e = .returned (.tuple #[.string Y, .int .i64 3]) ∧ Below w.heap.size w w') ∧
    (r ≠ 6 → X = Y) ∧ (r = 6 → Y.size < X.size ∧ X.extract 0 Y.size = Y) := by
  have h : kindOk t r = true := by
    have := kind_all
    simp only [List.all_eq_true, List.mem_range] at this
    have := this (t - 1) (by omega) r (by omega)
    rwa [Nat.sub_add_cancel t1] at this
  have hr : right (kset t) = true := by
    unfold right kset
    simp only [Bool.and_eq_true, decide_eq_true_eq]
    omega
  simp only [kindOk, Bool.and_eq_true, beq_iff_eq, Bool.or_eq_true, bne_iff_ne] at h
  obtain ⟨⟨⟨h1, h2⟩, h3⟩, h4⟩ := h
  have ht := fun hj => h4.resolve_left (by have := writer_one t t1 t3 hj; omega)
  have b1 := fun w => batch_few (kset t) hr (130 :: 1 :: kbad r) (by unfold kbad; repeat' split; all_goals simp) (fun hj => (ht hj).1) w
  have b2 := fun w => batch_few (kset t) hr [130, 1] (by simp) (fun hj => (ht hj).2) w
  rw [h1] at b1
  rw [h2] at b2
  refine ⟨_, _, b1, b2, fun h6 => ?_, fun h6 => ?_⟩
  · rw [if_neg h6] at h3
    rw [eq_of_beq h3]
  · rw [if_pos h6] at h3
    simp only [Bool.and_eq_true, decide_eq_true_eq, beq_iff_eq] at h3
    refine ⟨by show (List.toArray _).size < (List.toArray _).size; simpa using h3.1, ?_⟩
    apply ByteArray.ext
    apply Array.toList_inj.1
    rw [ByteArray.data_extract, Array.toList_extract, List.extract_eq_take_drop]
    have e : (⟨(batch textF (kset t) [130, 1]).1.toArray⟩ : ByteArray).size = (batch textF (kset t) [130, 1]).1.length := bytes_size _
    rw [e]
    simpa using h3.2

end Pip
end Go.Proofs.YthnbpnfaghjamaaGreat
