/- strconv.FormatUint to base 10, decimal.Print, and the reference's Digits and Print: the decimal numeral. -/
import Derived.Test.YtopaadmnlghdaaaDoorShelf
import Derived.Test.YtopaadmnlghdaaaDoorJsonM
import Derived.Test.YtopaadmnlghdaaaDoorConv
import Derived.WalkKit
import Derived.WalkLawsBesides
import Derived.Lib.ItoaMem
import Derived.Lib.AppendIntMem
import Derived.Lib.LaidTab
import Derived.OpenShut
import Derived.Deep.QuietTactic
import Derived.Lib.Hide
import Derived.RegionTactic
import Derived.BigRegion
namespace Go.Proofs.YtopaadmnlghdaaaDoor
open Go.RowKit Go.Sort Go.Shelf
namespace Json

/-- The library's tables hold what its text lays. -/
def Tabs (w : World) : Prop := Lib.Utf8Tabs 0 1 w ∧ Lib.TabIs Tryd.prog w "internal/strconv.uint64pow10" .u64 Lib.pow10Tab

theorem pow10_at : Tryd.prog.globalNamed "internal/strconv.uint64pow10" = some 3 := by kernel_rfl

/-- The tables lie below B. -/
def Under (B : Nat) : Prop := 0 < B ∧ 1 < B ∧ 3 < B

theorem Tabs.under {w : World} (h : Tabs w) : Under w.heap.size := by
  refine ⟨World.block_lt_of_cell? w ⟨_, 0, none⟩ (h.1.1 0 (by omega)), World.block_lt_of_cell? w ⟨_, 2 * 0, none⟩ (h.1.2 0 (by omega)).1, ?_⟩
  have h2 := h.2
  unfold Lib.TabIs World.var? at h2
  rw [pow10_at] at h2
  simp only [Option.bind_some] at h2
  rcases Nat.lt_or_ge 3 w.heap.size with h' | h'
  · exact h'
  · rw [Array.getElem?_eq_none h'] at h2; cases h2

theorem Tabs.of {B : Nat} {w w' : World} (h : Tabs w) (hb : Below B w w') (hB : Under B) : Tabs w' := by
  obtain ⟨hB1, hB2, hB3⟩ := hB
  refine ⟨⟨fun c hc => ?_, fun i hi => ⟨?_, ?_⟩⟩, ?_⟩
  · rw [hb.cell (by show 0 < B; omega)]; exact h.1.1 c hc
  · rw [hb.cell (by show 1 < B; omega)]; exact (h.1.2 i hi).1
  · rw [hb.cell (by show 1 < B; omega)]; exact (h.1.2 i hi).2
  · have h2 := h.2
    unfold Lib.TabIs World.var? at h2 ⊢
    rw [pow10_at] at h2 ⊢
    simp only [Option.bind_some] at h2 ⊢
    rw [hb.block _ (by omega)]
    exact h2

theorem Tabs.below {w w' : World} (h : Tabs w) (hb : Below w.heap.size w w') : Tabs w' := h.of hb h.under

set_option maxHeartbeats 4000000 in
set_option maxRecDepth 100000 in
theorem fmtIn_any (u : Nat) (hu64 : u < 18446744073709551616) (w : World) (T : Tabs w) :
    Calls Tryd.prog 49 #[.int .u64 (u : Int), .int .i64 10] w fun e w' => e = .returned (.string ⟨(Lib.decDigits u).toArray⟩) ∧ Below w.heap.size w w' := by
  by_cases hs : u < 100
  · have hc : (u : Int) < 100 := by omega
    have hw : IntKind.i64.wrap (u : Int) = (u : Int) := by rw [IntKind.wrap_i64]; omega
    go_enter Tryd.func49, Tryd.ntmps49
    go_wp2_with (go_at_call 56; refine (Tryd.internal_strconv_small u hs _).mono ?_; rintro e w' ⟨rfl, rfl⟩)
    go_ret
    exact ⟨rfl, Below.refl _ _⟩
  · have hu1 : 1 ≤ u := by omega
    have hnd20 : Lib.nDigits u ≤ 20 := by have := Lib.numDigits_eq u hu1 hu64; split at this <;> omega
    have hc : ¬ (u : Int) < 100 := by omega
    have hal : Tryd.prog.arrayLen 109 = 24 := by kernel_rfl
    have hsl : ∀ W, (Instr.sliceAt 109 (.pointer (some ⟨w.heap.size, 0, none⟩)) none (some (.int .i64 (Lib.nDigits u : Int))) none).run Tryd.prog W = .ok (.slice (some ⟨w.heap.size, 0, none⟩) (Lib.nDigits u) 24) W := fun W => by
      rw [run_sliceAt_array_h W 109 ⟨w.heap.size, 0, none⟩ (by kernel_rfl) .i64 (Lib.nDigits u : Int) (by omega) (by rw [hal]; omega)]
      go_simp
    have hH0 := Lib.holds_zero0 w 109 (Lib.nDigits u) (by omega)
    have hfmt := Tryd.internal_strconv_formatBase10 w.heap.size 0 24 u (Array.replicate (Lib.nDigits u) 0) (w.alloc (.cells Lib.zeros24 109)) hH0 (by rw [Array.size_replicate]; exact Lib.lt_pow_nDigits u) hu64 (by rw [Array.size_replicate]; omega)
    rw [Array.size_replicate] at hfmt
    have HH0 := Lib.hid hH0
    have HT := Lib.hid T
    clear hH0 hal T
    go_enter Tryd.func49, Tryd.ntmps49
    go_wp2_with (go_at_call 57; refine (Tryd.internal_strconv_numDigits u hu1 hu64 _ (Lib.tabIs_alloc HT.out.2 _)).mono ?_; rintro e w' ⟨rfl, rfl⟩)
    go_at_call 58
    refine hfmt.mono ?_
    rintro e w' ⟨rfl, k, v', dk, rfl, hF⟩
    have hcv : (convert 77 9 (.slice (some ⟨w.heap.size, 0, none⟩) (Lib.nDigits u) 24)).run Tryd.prog ((putRow (fun (b : UInt8) => Value.int .u8 (b.toNat : Int)) (w.alloc (.cells Lib.zeros24 109)) w.heap.size 0 dk).drewN k) = .ok (.string ⟨(Lib.decDigits u).toArray⟩) ((putRow (fun (b : UInt8) => Value.int .u8 (b.toNat : Int)) (w.alloc (.cells Lib.zeros24 109)) w.heap.size 0 dk).drewN k) := by
      have h := run_convert_bytes_back (P := Tryd.prog) ((putRow (fun (b : UInt8) => Value.int .u8 (b.toNat : Int)) (w.alloc (.cells Lib.zeros24 109)) w.heap.size 0 dk).drewN k) 77 9 5 ⟨w.heap.size, 0, none⟩ 24 (Lib.decDigits u) Tryd.underlying77 Tryd.underlying5 Tryd.underlying9 (fun j hj => by
        rw [Lib.row_is_numeral hF j hj, Lib.add_plain, World.cell?_drewN]
        exact cell?_putRow (fun (b : UInt8) => Value.int .u8 (b.toNat : Int)) _ w.heap.size 0 _ dk HH0.out (by rw [hF.size, Array.size_replicate]) j (by rw [hF.size]; rw [Lib.decDigits_length] at hj; exact hj))
      rw [Lib.decDigits_length] at h
      exact h
    obtain ⟨os, eo⟩ := Lib.fin_at w (.cells Lib.zeros24 109) dk k 0
    have hB := Lib.hid (show Below w.heap.size w ((putRow (fun (b : UInt8) => Value.int .u8 (b.toNat : Int)) (w.alloc (.cells Lib.zeros24 109)) w.heap.size 0 dk).drewN k) by rw [eo]; exact Lib.below_grow _ w (Nat.le_refl _) k os)
    clear eo
    generalize (putRow (fun (b : UInt8) => Value.int .u8 (b.toNat : Int)) (w.alloc (.cells Lib.zeros24 109)) w.heap.size 0 dk).drewN k = W2 at hcv hB ⊢
    go_wp2
    go_ret
    exact ⟨rfl, hB.out⟩

theorem fmt_any (u : Nat) (hu64 : u < 18446744073709551616) (w : World) (T : Tabs w) :
    Calls Tryd.prog 42 #[.int .u64 (u : Int), .int .i64 10] w fun e w' => e = .returned (.string ⟨(Lib.decDigits u).toArray⟩) ∧ Below w.heap.size w w' := by
  have H := Lib.hid (fmtIn_any u hu64 w T)
  clear T
  go_enter Tryd.func42, Tryd.ntmps42
  go_wp2_with (fail)
  refine H.out.mono ?_
  rintro e w' ⟨rfl, b⟩
  go_wp2
  go_ret
  exact ⟨rfl, b⟩

/-- A whole number's digits. -/
def dec (neg : Bool) (mag : Nat) : List UInt8 := if neg then 45 :: Lib.decDigits (mag + 1) else Lib.decDigits mag

theorem dec_top : (⟨(dec true 18446744073709551615).toArray⟩ : ByteArray) = ⟨#[45, 49, 56, 52, 52, 54, 55, 52, 52, 48, 55, 51, 55, 48, 57, 53, 53, 49, 54, 49, 54]⟩ := by
  unfold dec
  simp [Lib.decDigits]

theorem dec_len (u : Nat) (h : u < 18446744073709551616) : (⟨(Lib.decDigits u).toArray⟩ : ByteArray).size ≤ 20 := by
  show (Lib.decDigits u).toArray.size ≤ 20
  rw [List.size_toArray, Lib.decDigits_length]
  by_cases hu : 1 ≤ u
  · have := Lib.numDigits_eq u hu h; split at this <;> omega
  · rw [Lib.nDigits_small (by omega)]; omega

set_option maxHeartbeats 2000000 in
set_option maxRecDepth 100000 in
theorem print_any (neg : Bool) (mag : Nat) (hm : mag < 18446744073709551616) (w : World) (T : Tabs w) :
    Calls Tryd.prog 35 #[.agg #[.bool neg, .int .u64 (mag : Int)]] w fun e w' => e = .returned (.string ⟨(dec neg mag).toArray⟩) ∧ Below w.heap.size w w' := by
  have B0 := Lib.hid (fun o => (Below.refl w.heap.size w).alloc (Nat.le_refl _) o)
  have HT := Lib.hid (fun (o : Obj) => T.below (B0.out o))
  have HM := Lib.hid hm
  have bel : ∀ {W : World} {o : Obj}, Below (w.alloc o).heap.size (w.alloc o) W → Below w.heap.size w W := fun {W o} b => (B0.out o).trans (b.mono (by rw [show (w.alloc o).heap.size = w.heap.size + 1 by show (w.heap.push o).size = _; simp]; omega))
  have Bel := @Lib.hid _ @bel
  clear bel T
  cases neg with
  | false =>
    clear hm
    go_enter Tryd.func35, Tryd.ntmps35
    go_wp2_with (fail)
    refine (fmt_any mag HM.out _ (HT.out _)).mono ?_
    rintro e w' ⟨rfl, b⟩
    go_wp2
    go_ret
    exact ⟨rfl, Bel.out b⟩
  | true =>
    by_cases h : mag = 18446744073709551615
    · subst h
      have D := Lib.hid dec_top
      clear hm HM
      go_enter Tryd.func35, Tryd.ntmps35
      go_wp2
      go_ret
      exact ⟨by rw [D.out]; rfl, B0.out _⟩
    · have hw : IntKind.u64.wrap ((mag : Int) + 1) = ((mag + 1 : Nat) : Int) := by rw [IntKind.wrap_u64]; omega
      obtain ⟨m1, hm1⟩ : ∃ m1, m1 = mag + 1 := ⟨_, rfl⟩
      rw [← hm1] at hw
      have H1 := Lib.hid hm1
      have h2 : ((mag : Int) == 18446744073709551615) = false := by rw [beq_eq_false_iff_ne]; omega
      have hlt : m1 < 18446744073709551616 := by omega
      have HL := Lib.hid hlt
      clear hm h hlt hm1
      go_enter Tryd.func35, Tryd.ntmps35
      go_wp2_with (fail)
      have HF := fmt_any m1 HL.out
      obtain ⟨S, hS⟩ : ∃ S : ByteArray, S = ⟨(Lib.decDigits m1).toArray⟩ := ⟨_, rfl⟩
      have hS2 : S.size ≤ 20 := by rw [hS]; exact dec_len m1 HL.out
      rw [← hS] at HF
      have HS := Lib.hid hS
      clear hS
      refine (HF _ (HT.out _)).mono ?_
      rintro e w' ⟨rfl, b⟩
      clear HF
      go_wp2
      go_ret
      refine ⟨Own.ret_string ?_, Bel.out b⟩
      rw [HS.out, H1.out]
      rfl

/-- The digits ahead of those that are there. -/
def rest (v : Nat) : List UInt8 := if v = 0 then [] else Lib.decDigits v

theorem rest_step (v : Nat) (h : v ≠ 0) : rest (v / 10) ++ [UInt8.ofNat (48 + v % 10)] = rest v := by
  unfold rest
  rw [if_neg h]
  conv => rhs; rw [Lib.decDigits]
  by_cases h10 : v < 10
  · rw [if_pos (by omega), dif_pos h10, Nat.mod_eq_of_lt h10]; rfl
  · rw [if_neg (by omega), dif_neg h10]

set_option maxHeartbeats 2000000 in
set_option maxRecDepth 100000 in
theorem digits_any (u : Nat) (hu : u < 18446744073709551616) (w : World) :
    Calls Tryd.prog 48 #[.int .u64 (u : Int)] w fun e w' => e = .returned (.string ⟨(Lib.decDigits u).toArray⟩) ∧ Below w.heap.size w w' := by
  have HU := Lib.hid hu
  clear hu
  go_enter Tryd.func48, Tryd.ntmps48
  go_wp2
  go_loopw [0, 3] (fun v s wr => ∃ (v' : Nat) (l : List UInt8), v = .int .u64 v' ∧ s = .string ⟨l.toArray⟩ ∧ v' ≤ u ∧ ((l = [] ∧ v' = u) ∨ (l ≠ [] ∧ rest v' ++ l = Lib.decDigits u)) ∧ l.length ≤ 20 ∧ Below w.heap.size w wr)
    (fun v s _ => (intOf v).toNat + (match s with | .string b => if b.size = 0 then 1 else 0 | _ => 0))
  case atStart => exact ⟨u, [], rfl, rfl, Nat.le_refl _, .inl ⟨rfl, rfl⟩, by simp, Below.refl _ _⟩
  case round =>
    obtain ⟨v, l, rfl, rfl, hv, hl, hlen, hb⟩ := hrel
    have HB := Lib.hid hb
    have HL := Lib.hid hl
    have HV := Lib.hid hv
    obtain ⟨S, hS⟩ : ∃ S : ByteArray, S = ⟨l.toArray⟩ := ⟨_, rfl⟩
    have hS2 : S.size ≤ 20 := by rw [hS]; show l.toArray.size ≤ 20; rw [List.size_toArray]; exact hlen
    have HS := Lib.hid hS
    have he : S.toList.isEmpty = decide (l = []) := by rw [hS, ByteArray.toList_eq]; cases l <;> simp
    rw [← hS]
    clear hS hlen hb hl hv
    by_cases hcont : v ≠ 0 ∨ l = []
    · obtain ⟨d, hd⟩ : ∃ d, d = v % 10 := ⟨_, rfl⟩
      obtain ⟨q, hq⟩ : ∃ q, q = v / 10 := ⟨_, rfl⟩
      have hd1 : (v : Int).tmod 10 = (d : Int) := by rw [Int.tmod_eq_emod_of_nonneg (by omega)]; omega
      have hd1' : (v : Int) % 10 = (d : Int) := by omega
      have hq1 : (v : Int).tdiv 10 = (q : Int) := by rw [Int.tdiv_eq_ediv_of_nonneg (by omega)]; omega
      have hq1' : (v : Int) / 10 = (q : Int) := by omega
      have hd2 : IntKind.u64.wrap (48 + (d : Int)) = 48 + (d : Int) := by rw [IntKind.wrap_u64]; omega
      have hd3 : IntKind.u8.wrap (48 + (d : Int)) = 48 + (d : Int) := by rw [IntKind.wrap_u8]; omega
      have cv := fun W => Conv.one W (48 + (d : Int))
      have hstr : strOfNums [48 + (d : Int)] = ⟨#[UInt8.ofNat (48 + d)]⟩ := by
        unfold strOfNums
        have hn : (48 + (d : Int)).toNat = 48 + d := by omega
        simp [hn]
      have HC := Lib.hid hcont
      have HD := Lib.hid (And.intro hd hq)
      clear hd hq
      have hstr2 : strOfNums [48 + (d : Int)] = ⟨#[48 + UInt8.ofNat d]⟩ := by rw [hstr]; simp
      have hqw : IntKind.u64.wrap (q : Int) = (q : Int) := by have := HD.out.2; have := HV.out; have := HU.out; rw [IntKind.wrap_u64]; omega
      have Hgo : Hid (rest q ++ (UInt8.ofNat (48 + d) :: l) = Lib.decDigits u) := by
        apply Lib.hid
        rw [HD.out.1, HD.out.2]
        rcases HL.out with ⟨h1, h2⟩ | ⟨h1, h2⟩
        · subst h1 h2
          by_cases hz : v = 0
          · subst hz; rw [Lib.decDigits]; simp [rest]
          · rw [rest_step v hz, rest, if_neg hz]
        · have hz : v ≠ 0 := by rcases HC.out with h | h; exact h; exact absurd h h1
          rw [← h2, ← rest_step v hz]
          simp
      have Hend : Hid ((∃ (v' : Nat) (l' : List UInt8), Value.int IntKind.u64 (IntKind.u64.wrap ↑q) = Value.int IntKind.u64 ↑v' ∧ Value.string ((⟨#[48 + UInt8.ofNat d]⟩ : ByteArray) ++ S) = Value.string ⟨l'.toArray⟩ ∧
          v' ≤ u ∧ (l' = [] ∧ v' = u ∨ l' ≠ [] ∧ rest v' ++ l' = Lib.decDigits u) ∧ l'.length ≤ 20 ∧ RowKit.Below w.heap.size w (wr.alloc (Obj.cells #[Value.int IntKind.u8 (48 + ↑d)] 5))) ∧
          ((intOf (Value.int IntKind.u64 (IntKind.u64.wrap ↑q))).toNat + (if ((⟨#[48 + UInt8.ofNat d]⟩ : ByteArray) ++ S).size = 0 then 1 else 0) < (intOf (Value.int IntKind.u64 ↑v)).toNat + (if S.size = 0 then 1 else 0))) := by
        apply Lib.hid
        have hle := dec_len u HU.out
        have hs3 : w.heap.size ≤ wr.heap.size := HB.out.size
        have hx : (⟨(Lib.decDigits u).toArray⟩ : ByteArray).size = (Lib.decDigits u).length := List.size_toArray ..
        rw [hx, ← Hgo.out, List.length_append, List.length_cons] at hle
        refine ⟨⟨q, UInt8.ofNat (48 + d) :: l, by rw [hqw], ?_, by rw [HD.out.2]; have := HV.out; omega, .inr ⟨by simp, Hgo.out⟩, by rw [List.length_cons]; omega, HB.out.alloc hs3 _⟩, ?_⟩
        · rw [HS.out]
          congr 1
          apply ByteArray.ext
          simp
        · rw [hqw]
          have hs1 : ((⟨#[48 + UInt8.ofNat d]⟩ : ByteArray) ++ S).size = 1 + S.size := by simp [ByteArray.size_append]; rfl
          rw [hs1, if_neg (by omega)]
          show (q : Int).toNat + 0 < (v : Int).toNat + _
          have := HD.out.2
          rcases Nat.eq_zero_or_pos v with hz | hz
          · have hl0 : l = [] := by rcases HC.out with h | h; exact absurd hz h; exact h
            have : S.size = 0 := by rw [HS.out, hl0]; rfl
            rw [if_pos this]; omega
          · omega
      clear hqw
      rcases Nat.eq_zero_or_pos v with h0 | h0
      · have hl0 : l = [] := by rcases hcont with h | h; exact absurd h0 h; exact h
        have h0' : ¬ (0 : Int) < (v : Int) := by omega
        rw [hl0] at he
        simp only [decide_true] at he
        have h00 := h0
        clear hcont h0 cv hstr hstr2
        have cv0 := fun W => Conv.one W 48
        have hstr0 : strOfNums [48] = ⟨#[48]⟩ := rfl
        have Hz := Lib.hid (And.intro h00 hl0)
        clear h00 hl0
        go_wp2
        go_roundw
        case rel =>
          have h2 : Lib.decDigits u = [48] := by rw [← Hgo.out, HD.out.1, HD.out.2, Hz.out.1, Hz.out.2]; rfl
          have hs3 : w.heap.size ≤ wr.heap.size := HB.out.size
          refine ⟨0, [48], rfl, ?_, Nat.zero_le _, .inr ⟨by simp, by rw [h2]; rfl⟩, by simp, HB.out.alloc hs3 _⟩
          rw [HS.out, Hz.out.2]
          rfl
        case measure =>
          rw [HS.out, Hz.out.1, Hz.out.2]
          decide
      · clear hcont
        have h0' : (0 : Int) < (v : Int) := by omega
        clear h0
        go_wp2
        go_roundw
        case rel => exact Hend.out.1
        case measure => exact Hend.out.2
    · have h0 : v = 0 := by omega
      have hl0 : l ≠ [] := fun h => hcont (.inr h)
      subst h0
      have he2 : S.toList.isEmpty = false := by rw [he]; simpa using hl0
      clear he hcont
      go_wp2
      go_ret
      refine ⟨Own.ret_string ?_, HB.out⟩
      rcases HL.out with h | h
      · exact absurd h.1 hl0
      · rw [HS.out, ← h.2]; simp [rest]

set_option maxHeartbeats 2000000 in
set_option maxRecDepth 100000 in
theorem refPrint_any (neg : Bool) (mag : Nat) (hm : mag < 18446744073709551616) (w : World) :
    Calls Tryd.prog 39 #[.agg #[.bool neg, .int .u64 (mag : Int)]] w fun e w' => e = .returned (.string ⟨(dec neg mag).toArray⟩) ∧ Below w.heap.size w w' := by
  have B0 := Lib.hid (fun o => (Below.refl w.heap.size w).alloc (Nat.le_refl _) o)
  have HM := Lib.hid hm
  have bel : ∀ {W : World} {o : Obj}, Below (w.alloc o).heap.size (w.alloc o) W → Below w.heap.size w W := fun {W o} b => (B0.out o).trans (b.mono (by rw [show (w.alloc o).heap.size = w.heap.size + 1 by show (w.heap.push o).size = _; simp]; omega))
  have Bel := @Lib.hid _ @bel
  clear bel
  cases neg with
  | false =>
    clear hm
    go_enter Tryd.func39, Tryd.ntmps39
    go_wp2_with (fail)
    refine (digits_any mag HM.out _).mono ?_
    rintro e w' ⟨rfl, b⟩
    go_wp2
    go_ret
    exact ⟨rfl, Bel.out b⟩
  | true =>
    by_cases h : mag = 18446744073709551615
    · subst h
      have D := Lib.hid dec_top
      clear hm HM
      go_enter Tryd.func39, Tryd.ntmps39
      go_wp2
      go_ret
      exact ⟨by rw [D.out]; rfl, B0.out _⟩
    · have hw : IntKind.u64.wrap ((mag : Int) + 1) = ((mag + 1 : Nat) : Int) := by rw [IntKind.wrap_u64]; omega
      obtain ⟨m1, hm1⟩ : ∃ m1, m1 = mag + 1 := ⟨_, rfl⟩
      rw [← hm1] at hw
      have H1 := Lib.hid hm1
      have h2 : ((mag : Int) == 18446744073709551615) = false := by rw [beq_eq_false_iff_ne]; omega
      have hlt : m1 < 18446744073709551616 := by omega
      have HL := Lib.hid hlt
      clear hm h hlt hm1
      go_enter Tryd.func39, Tryd.ntmps39
      go_wp2_with (fail)
      have HF := digits_any m1 HL.out
      obtain ⟨S, hS⟩ : ∃ S : ByteArray, S = ⟨(Lib.decDigits m1).toArray⟩ := ⟨_, rfl⟩
      have hS2 : S.size ≤ 20 := by rw [hS]; exact dec_len m1 HL.out
      rw [← hS] at HF
      have HS := Lib.hid hS
      clear hS
      refine (HF _).mono ?_
      rintro e w' ⟨rfl, b⟩
      clear HF
      go_wp2
      go_ret
      refine ⟨Own.ret_string ?_, Bel.out b⟩
      rw [HS.out, H1.out]
      rfl
end Json
end Go.Proofs.YtopaadmnlghdaaaDoor
