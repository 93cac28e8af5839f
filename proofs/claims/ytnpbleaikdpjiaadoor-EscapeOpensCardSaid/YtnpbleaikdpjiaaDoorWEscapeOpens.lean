/- EscapeOpens: the walk. -/
import Derived.Test.YtnpbleaikdpjiaaDoorAlive5
import Derived.OpenShut
namespace Go.Proofs.YtnpbleaikdpjiaaDoor.escapeOpens
open Go.RowKit

def run (l : List UInt8) : Esc.Rdr := l.foldl (fun r b => (r.step b).1) Esc.Rdr.zero

theorem run_fits (l : List UInt8) : (run l).Fits := by
  have : ∀ (l : List UInt8) (r : Esc.Rdr), r.Fits → (l.foldl (fun r b => (r.step b).1) r).Fits := by
    intro l
    induction l with
    | nil => exact fun _ h => h
    | cons b l ih => exact fun r h => ih _ (Esc.step_fits h b)
  exact this l _ Esc.Rdr.zero_fits

theorem run_snoc (l : List UInt8) (b : UInt8) : run (l ++ [b]) = ((run l).step b).1 := by
  simp [run, List.foldl_append]

def good (l : List UInt8) : Bool :=
  decide (0 < l.length) && decide (l.length ≤ 12) &&
  (List.range l.length).all fun k => ((run (l.take k)).step (l.getD k 0)).2.2 == 0 && ((run (l.take (k + 1))).whole == (k + 1 == l.length)) &&
    (((Esc.read (l.take k)).2 == 3) == decide (0 < k))

def six : List (List UInt8) := [[92, 110], [92, 117, 48, 48, 101, 57], [92, 117, 100, 56, 51, 52, 92, 117, 100, 100, 49, 101], [195, 169], [240, 157, 132, 158], [97]]
theorem good_six : ∀ l ∈ six, good l = true := by decide +kernel

structure Good (s : ByteArray) : Prop where
  pos : 0 < s.size
  le : s.size ≤ 12
  err : ∀ k (h : k < s.size), ((run (s.data.toList.take k)).step (s[k]'h)).2.2 = 0
  whole : ∀ k, k < s.size → (run (s.data.toList.take (k + 1))).whole = (k + 1 == s.size)
  cut : ∀ k, k < s.size → ((Esc.read (s.data.toList.take k)).2 == 3) = decide (0 < k)

theorem Good.of (l : List UInt8) (h : good l = true) : Good ⟨l.toArray⟩ := by
  simp only [good, Bool.and_eq_true, decide_eq_true_eq, List.all_eq_true, List.mem_range, beq_iff_eq] at h
  obtain ⟨⟨h1, h2⟩, h3⟩ := h
  have hz : (⟨l.toArray⟩ : ByteArray).size = l.length := Mem.size_mk l
  refine ⟨by omega, by omega, ?_, ?_, ?_⟩
  · intro k hk
    have := (h3 k (by omega)).1.1
    rw [List.getD_eq_getElem?_getD, List.getElem?_eq_getElem (by omega)] at this
    exact this
  · intro k hk
    have := (h3 k (by omega)).1.2
    rw [hz]; exact this
  · intro k hk
    exact (h3 k (by omega)).2

theorem int_beq (a b : Nat) : ((a : Int) == (b : Int)) = (a == b) := by
  rw [Bool.eq_iff_iff, beq_iff_eq, beq_iff_eq]; omega

theorem mod_fact (a n : Int) (h : 0 < n) (hn : n ≤ 1000) : 0 ≤ (wrap64 (a.tmod n + n)).tmod n ∧ (wrap64 (a.tmod n + n)).tmod n < n := by
  have h1 := Int.lt_tmod_of_pos a h
  have h2 := Int.tmod_lt_of_pos a h
  rw [show wrap64 (a.tmod n + n) = a.tmod n + n by unfold wrap64; omega]
  exact ⟨Int.tmod_nonneg _ (by omega), Int.tmod_lt_of_pos _ h⟩

set_option maxRecDepth 100000 in
set_option maxHeartbeats 2000000 in
theorem walk (a0 a1 : Int) (_w0 : (Lit.int .i64 a0).wf = true) (_w1 : (Lit.int .i64 a1).wf = true) (w : World) (hT : Lib.Utf8Tabs 0 1 w) :
    Calls Tryd.prog 9 #[.int .i64 a0, .int .i64 a1] w fun e w' => e = .returned (.bool true) ∧ Below w.heap.size w w' := by
  have HT := Lib.hid hT
  clear hT
  have hr := mod_fact a0 6 (by omega) (by omega)
  go_enter Tryd.func9, Tryd.ntmps9
  go_wp2_with (fail)
  have hb0 := (Below.refl w.heap.size w).alloc (Nat.le_refl _) (.cells #[.string ⟨#[92, 110]⟩, .string ⟨#[92, 117, 48, 48, 101, 57]⟩, .string ⟨#[92, 117, 100, 56, 51, 52, 92, 117, 100, 100, 49, 101]⟩, .string ⟨#[195, 169]⟩, .string ⟨#[240, 157, 132, 158]⟩, .string ⟨#[97]⟩] 9)
  have HT0 := Lib.hid (Go.Proofs.Utf8Tabs_below HT.out hb0)
  generalize hv : ([Value.string ⟨#[92, 110]⟩, Value.string ⟨#[92, 117, 48, 48, 101, 57]⟩, Value.string ⟨#[92, 117, 100, 56, 51, 52, 92, 117, 100, 100, 49, 101]⟩, Value.string ⟨#[195, 169]⟩, Value.string ⟨#[240, 157, 132, 158]⟩, Value.string ⟨#[97]⟩] : List Value)[((wrap64 (a0.tmod 6 + 6)).tmod 6).toNat]'_ = v
  obtain ⟨s, rfl, hs⟩ : ∃ s : ByteArray, v = .string s ∧ Good s := by
    have hm := List.getElem_mem (l := ([Value.string ⟨#[92, 110]⟩, Value.string ⟨#[92, 117, 48, 48, 101, 57]⟩, Value.string ⟨#[92, 117, 100, 56, 51, 52, 92, 117, 100, 100, 49, 101]⟩, Value.string ⟨#[195, 169]⟩, Value.string ⟨#[240, 157, 132, 158]⟩, Value.string ⟨#[97]⟩] : List Value)) (n := ((wrap64 (a0.tmod 6 + 6)).tmod 6).toNat) (by show _ < 6; omega)
    rw [hv] at hm
    simp only [List.mem_cons, List.not_mem_nil, or_false] at hm
    rcases hm with rfl | rfl | rfl | rfl | rfl | rfl
    · exact ⟨_, rfl, Good.of _ (good_six _ (by simp [six]))⟩
    · exact ⟨_, rfl, Good.of _ (good_six _ (by simp [six]))⟩
    · exact ⟨_, rfl, Good.of _ (good_six _ (by simp [six]))⟩
    · exact ⟨_, rfl, Good.of _ (good_six _ (by simp [six]))⟩
    · exact ⟨_, rfl, Good.of _ (good_six _ (by simp [six]))⟩
    · exact ⟨_, rfl, Good.of _ (good_six _ (by simp [six]))⟩
  clear hv
  refine (Alive5.any _ HT0.out).mono ?_
  rintro e w1 ⟨rfl, b1⟩
  have hb1 := hb0.trans (b1.mono hb0.size)
  clear hb0 b1 HT0
  have HS := Lib.hid hs
  have hpos := hs.pos
  have hle := hs.le
  clear hs
  go_wp2_with (fail)
  refine (Esc.whole_any _ w1.heap.size _ [] [] Esc.Rdr.zero (At.Is.new w1 Esc.Rdr.zero.enc _)).mono ?_
  rintro e w2 ⟨rfl, rfl⟩
  rw [show Esc.Rdr.zero.whole = true from rfl]
  have hx := At.Is.new w1 Esc.Rdr.zero.enc 28
  have hbx := hb1.alloc hb1.size (.cells Esc.Rdr.zero.enc.toArray 28)
  have hb1s := hb1.size
  go_wp2
  go_loopw [7] (fun i wr => ∃ (k : Nat), i = .int .i64 k ∧ k ≤ s.size ∧
      At.Is wr w1.heap.size 28 [] (run (s.data.toList.take k)).enc [] ∧ Below w.heap.size w wr) (fun i _ => s.size - (intOf i).toNat)
  case atStart =>
    exact ⟨0, rfl, by omega, hx, hbx⟩
  case round =>
    obtain ⟨k, rfl, hk, hI, hbw⟩ := hrel
    have HI := Lib.hid hI
    have hbs := hbw.size
    clear hI
    by_cases hlt : k < s.size
    · have hd : s.data.toList.take (k + 1) = s.data.toList.take k ++ [s[k]'hlt] := by
        rw [List.take_succ_eq_append_getElem (by rw [Array.length_toList]; exact hlt)]; rfl
      have hE := HS.out.err k hlt
      have hW := HS.out.whole k hlt
      obtain ⟨o, ho⟩ : ∃ o, o = (run (s.data.toList.take k)).step (s[k]'hlt) := ⟨_, rfl⟩
      rw [hd, run_snoc, ← ho] at hW
      rw [← ho] at hE
      have HN := Lib.hid (show run (s.data.toList.take (k + 1)) = o.1 by rw [hd, run_snoc, ← ho])
      have HO := Lib.hid ho
      have HE := Lib.hid hE
      have HW := Lib.hid hW
      clear ho hE hW hd
      go_wp2_with (fail)
      refine (Esc.step_any wr w1.heap.size _ [] [] (run (s.data.toList.take k)) (s[k]'hlt) (run_fits _) HI.out).mono ?_
      rintro e W1 ⟨rfl, i1, o1⟩
      rw [← HO.out] at i1 ⊢
      rw [Esc.stepOut, HE.out]
      have hbw1 := At.Only.below hbw o1 (by omega) hbs
      have I1 := Lib.hid i1
      clear i1 o1
      go_wp2_with (fail)
      refine (Esc.whole_any W1 w1.heap.size _ [] [] o.1 I1.out).mono ?_
      rintro e W2 ⟨rfl, rfl⟩
      rw [HW.out]
      go_wp2
      · exfalso
        rename_i hne
        have hl : (k + 1 == s.size) = ((k : Int) == (s.size : Int) - 1) := by
          by_cases hl : k + 1 = s.size
          · rw [beq_iff_eq.mpr hl, beq_iff_eq.mpr (show (k : Int) = (s.size : Int) - 1 by omega)]
          · rw [beq_eq_false_iff_ne.mpr hl, beq_eq_false_iff_ne.mpr (show (k : Int) ≠ (s.size : Int) - 1 by omega)]
        rw [hl] at hne
        simp at hne
      · go_roundw
        case rel =>
          exact ⟨k + 1, by go_num, by omega, by rw [HN.out]; exact I1.out, hbw1⟩
        case measure => simp [intOf]; omega
    · have hr1 := mod_fact a1 s.size (by omega) (by omega)
      obtain ⟨m, hm⟩ : ∃ m : Nat, (m : Int) = (wrap64 (a1.tmod s.size + s.size)).tmod s.size := ⟨((wrap64 (a1.tmod s.size + s.size)).tmod s.size).toNat, by omega⟩
      rw [← hm] at hr1
      have hn0 : ¬ ((s.size : Int) = 0) := by omega
      go_wp2_with (fail)
      have he : (wrap64 (a1.tmod s.size + s.size)).tmod s.size = m := hm.symm
      obtain ⟨⟨q, n⟩, hq⟩ : ∃ q, Esc.read (s.extract 0 m).data.toList = q := ⟨_, rfl⟩
      have hsx : (s.extract 0 m).size ≤ 1000 := by rw [ByteArray.size_extract]; omega
      have HQ := Lib.hid (Alive5.readOf (s.extract 0 m) hsx (q, n) hq wr)
      have hc := HS.out.cut m (by omega)
      have hdt : (s.extract 0 m).data.toList = s.data.toList.take m := by
        rw [ByteArray.data_extract, Array.toList_extract]; simp
      rw [← hdt, hq] at hc
      rw [he]
      clear he hm
      rw [show (m : Int).toNat = m from rfl]
      refine HQ.out.mono ?_
      rintro e W1 ⟨rfl, b1⟩
      have HC := Lib.hid hc
      clear hq hc hdt hsx
      dsimp only
      go_wp2
      go_ret
      refine ⟨Mem.ret_bool ?_, hbw.trans (b1.mono hbs)⟩
      have hc := HC.out
      have e3 : ((n : Int) == 3) = (n == 3) := int_beq n 3

      simp only [e3, hc, beq_self_eq_true]
end Go.Proofs.YtnpbleaikdpjiaaDoor.escapeOpens
