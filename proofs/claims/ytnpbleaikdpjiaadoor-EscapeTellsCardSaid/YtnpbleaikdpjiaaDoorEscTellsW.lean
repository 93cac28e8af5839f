/- EscapeTells: the walk. -/
import Derived.Test.YtnpbleaikdpjiaaDoorAlive5
import Derived.Test.YtnpbleaikdpjiaaDoorEscTells
import Derived.Test.YtnpbleaikdpjiaaDoorRefInA
import Derived.Test.YtnpbleaikdpjiaaDoorRefWrite
import Derived.OpenShut
namespace Go.Proofs.YtnpbleaikdpjiaaDoor.escapeTells
open Go.RowKit

set_option maxHeartbeats 1000000 in
theorem step_nil (w : World) : Calls Tryd.prog 11 #[.pointer none, .int .u8 97] w fun e w' => e = .returned (.tuple #[.string ⟨#[]⟩, .int .i64 14]) ∧ w = w' := by
  go_enter Tryd.func11, Tryd.ntmps11
  go_wp2
  go_ret2
  exact ⟨rfl, rfl⟩

theorem whole_nil (w : World) : Calls Tryd.prog 12 #[.pointer none] w fun e w' => e = .returned (.bool false) ∧ w = w' := by
  go_enter Tryd.func12, Tryd.ntmps12
  go_wp2
  go_ret
  exact ⟨rfl, rfl⟩

theorem slice_to (s : ByteArray) (k : Nat) (K : Int) (hK : K = (k : Int)) (h : k ≤ s.size) (w : World) :
    (Instr.slice 9 (.string s) none (some (.int .i64 K)) none).run Tryd.prog w = .ok (.string (s.extract 0 k)) w := by
  subst hK
  rw [run_slice_string_to_if w 9 s .i64 k Tryd.underlying9, if_pos (by omega)]
  rfl

theorem extract_take (s : ByteArray) (k : Nat) : (s.extract 0 k).data.toList = s.data.toList.take k := by
  rw [ByteArray.data_extract, Array.toList_extract]; simp

theorem take_one (s : ByteArray) (k : Nat) (h : k < s.size) : s.data.toList.take (k + 1) = s.data.toList.take k ++ [s[k]'h] := by
  rw [List.take_succ_eq_append_getElem (by rw [Array.length_toList]; exact h)]; rfl

/-- Nothing wrong so far; or the first error. -/
def State (s : ByteArray) (k : Nat) (r : Esc.Rdr) (got bad : Value) : Prop :=
  (∃ (acc : List UInt8) (S : ByteArray), got = .string S ∧ S = ⟨acc.toArray⟩ ∧ bad = .int .i64 0 ∧ S.size ≤ 4 * k ∧ Esc.Told r (s.data.toList.take k) acc) ∨
  (∃ (S : ByteArray) (b : Nat), got = .string S ∧ bad = .int .i64 b ∧ b ≠ 0 ∧ r.e = b)

set_option maxRecDepth 100000 in
set_option maxHeartbeats 8000000 in
theorem walk_of (HI : ∀ (s : ByteArray) (w : World), s.size ≤ 1000 → Calls Tryd.prog 13 #[.string s, .bool false, .int .i64 0] w fun e w' => Ref.InOut s.data.toList e ∧ Below w.heap.size w w')
    (s t : ByteArray) (w : World) (hT : Lib.Utf8Tabs 0 1 w) :
    Calls Tryd.prog 3 #[.string s, .string t] w fun e w' => e = .returned (.bool true) ∧ Below w.heap.size w w' := by
  have HT := Lib.hid hT
  have HIn := Lib.hid HI
  clear hT HI
  by_cases h1 : 120 < s.size
  · go_enter Tryd.func3, Tryd.ntmps3
    go_wp2_with (fail)
    refine (Alive5.any w HT.out).mono ?_
    rintro e w1 ⟨rfl, b1⟩
    go_wp2
    go_ret
    exact ⟨rfl, b1⟩
  by_cases h2 : 300 < t.size
  · go_enter Tryd.func3, Tryd.ntmps3
    go_wp2_with (fail)
    refine (Alive5.any w HT.out).mono ?_
    rintro e w1 ⟨rfl, b1⟩
    go_wp2
    go_ret
    exact ⟨rfl, b1⟩
  go_enter Tryd.func3, Tryd.ntmps3
  go_wp2_with (fail)
  refine (Alive5.any w HT.out).mono ?_
  rintro e w1 ⟨rfl, b1⟩
  have hx := At.Is.new w1 Esc.Rdr.zero.enc 28
  have hbx := b1.alloc b1.size (.cells Esc.Rdr.zero.enc.toArray 28)
  have hb1s := b1.size
  go_wp2
  go_loopw [6, 7, 8] (fun got bad i wr => ∃ (k : Nat) (r : Esc.Rdr), i = .int .i64 k ∧ k ≤ s.size ∧ r.Fits ∧ At.Is wr w1.heap.size 28 [] r.enc [] ∧ Below w.heap.size w wr ∧ State s k r got bad) (fun _ _ i _ => s.size - (intOf i).toNat)
  case atStart => exact ⟨0, Esc.Rdr.zero, rfl, by omega, Esc.Rdr.zero_fits, hx, hbx, .inl ⟨[], _, rfl, rfl, rfl, by decide, Esc.Told.zero⟩⟩
  case round =>
    obtain ⟨k, r, rfl, hk, hf, hI, hbw, hst⟩ := hrel
    have HI := Lib.hid hI
    have HF := Lib.hid hf
    have hbs := hbw.size
    clear hI hf hx hbx
    by_cases hlt : k < s.size
    · obtain ⟨c, hc⟩ : ∃ c, s[k]'hlt = c := ⟨_, rfl⟩
      have HTk := Lib.hid (hc ▸ take_one s k hlt : s.data.toList.take (k + 1) = s.data.toList.take k ++ [c])
      rcases hst with ⟨acc, S, rfl, hS, rfl, hSs, htold⟩ | ⟨S, b, rfl, rfl, hb0, hre⟩
      · have HS := Lib.hid hS
        have HTo := Lib.hid htold
        obtain ⟨o, ho⟩ : ∃ o, o = r.step c := ⟨_, rfl⟩
        have HO := Lib.hid ho
        have hl4 : o.2.1.length ≤ 4 := by rw [ho]; exact Esc.step_length _ _
        have hs1 := slice_to s (k + 1) ((k : Int) + 1) (by omega) (by omega)
        have HIk := Lib.hid (fun W => HIn.out (s.extract 0 (k + 1)) W (by rw [ByteArray.size_extract]; omega))
        clear hS htold ho
        by_cases h0 : o.2.2 = 0
        · have H0 := Lib.hid h0
          clear h0
          go_wp2_with (fail)
          refine (Esc.step_any wr w1.heap.size _ [] [] r c HF.out HI.out).mono ?_
          rintro e W1 ⟨rfl, i1, o1⟩
          rw [← HO.out] at i1 ⊢
          rw [Esc.stepOut, H0.out]
          have hbw1 := At.Only.below hbw o1 (by omega) hbs
          have hbw1s := hbw1.size
          have I1 := Lib.hid i1
          clear i1 o1
          have hX : (⟨o.2.1.toArray⟩ : ByteArray).size ≤ 4 := by rw [Mem.size_mk]; exact hl4
          obtain ⟨X, hXd⟩ : ∃ X : ByteArray, X = ⟨o.2.1.toArray⟩ := ⟨_, rfl⟩
          rw [← hXd] at hX ⊢
          have HX := Lib.hid hXd
          clear hXd hl4
          go_wp2_with (fail)
          refine (HIk.out _).mono ?_
          rintro e W2 ⟨⟨T, n, wh, er, rfl, her, hgood⟩, b2⟩
          have hn := HTo.out.next c (by rw [← HO.out]; exact H0.out)
          rw [← HTk.out, ← HO.out] at hn
          have hans := hn.ans
          rw [extract_take, hans] at her hgood
          obtain rfl := her
          obtain ⟨rfl, rfl⟩ := hgood rfl
          have HN := Lib.hid hn
          clear hn hans hgood
          have I2 := Lib.hid (I1.out.below b2 |>.kept rfl)
          rw [show (⟨(acc ++ o.2.1).toArray⟩ : ByteArray) = S ++ X by rw [HS.out, HX.out, Mem.append_mk]]
          obtain ⟨q, hq⟩ : ∃ q, q = o.1.whole := ⟨_, rfl⟩
          rw [← hq]
          have HQ := Lib.hid hq
          clear hq
          go_wp2_with (fail)
          refine (Esc.whole_any W2 w1.heap.size _ [] [] o.1 I2.out).mono ?_
          rintro e W3 ⟨rfl, rfl⟩
          rw [← HQ.out]
          go_wp2
          go_roundw
          case rel => exact ⟨k + 1, o.1, by go_num, by omega, by rw [HO.out]; exact Esc.step_fits HF.out c, I2.out, hbw1.trans (b2.mono hbw1s), .inl ⟨acc ++ o.2.1, S ++ X, rfl, by rw [HS.out, HX.out, Mem.append_mk], rfl, by rw [ByteArray.size_append]; omega, HN.out⟩⟩
          case measure => simp [intOf]; omega
        · have hb0 : ((o.2.2 : Int) != 0) = true := by simp; omega
          have H0 := Lib.hid h0
          have hse := Esc.step_err r c (by rw [← HO.out]; exact h0)
          rw [← HO.out] at hse
          have HSe := Lib.hid hse
          clear h0 hse
          go_wp2_with (fail)
          refine (Esc.step_any wr w1.heap.size _ [] [] r c HF.out HI.out).mono ?_
          rintro e W1 ⟨rfl, i1, o1⟩
          rw [← HO.out] at i1 ⊢
          rw [Esc.stepOut, HSe.out.1]
          have hbw1 := At.Only.below hbw o1 (by omega) hbs
          have hbw1s := hbw1.size
          have I1 := Lib.hid i1
          clear i1 o1
          go_wp2_with (fail)
          refine (HIk.out _).mono ?_
          rintro e W2 ⟨⟨T, n, wh, er, rfl, her, hgood⟩, b2⟩
          have hbad := HTo.out.bad c (by rw [← HO.out]; exact H0.out)
          rw [← HTk.out, ← HO.out] at hbad
          rw [extract_take, hbad] at her
          obtain rfl := her
          clear hbad hgood
          have I2 := Lib.hid (I1.out.below b2 |>.kept rfl)
          go_wp2_with (fail)
          refine (Esc.whole_any W2 w1.heap.size _ [] [] o.1 I2.out).mono ?_
          rintro e W3 ⟨rfl, rfl⟩
          rw [Esc.whole_err (by rw [HSe.out.2]; exact H0.out)]
          go_wp2
          go_roundw
          case rel => exact ⟨k + 1, o.1, by go_num, by omega, by rw [HO.out]; exact Esc.step_fits HF.out c, I2.out, hbw1.trans (b2.mono hbw1s), .inr ⟨S, o.2.2, rfl, rfl, H0.out, HSe.out.2⟩⟩
          case measure => simp [intOf]; omega
      · have hbb : ((b : Int) != 0) = true := by simp; omega
        have HB0 := Lib.hid hb0
        have HRe := Lib.hid hre
        have HL := Lib.hid (Esc.step_latched (r := r) (by rw [hre]; exact hb0) c)
        have HWh := Lib.hid (Esc.whole_err (r := r) (by rw [hre]; exact hb0))
        clear hb0 hre
        go_wp2_with (fail)
        refine (Esc.step_any wr w1.heap.size _ [] [] r c HF.out HI.out).mono ?_
        rintro e W1 ⟨rfl, i1, o1⟩
        rw [HL.out] at i1 ⊢
        rw [Esc.stepOut, HRe.out]
        have hbw1 := At.Only.below hbw o1 (by omega) hbs
        have I1 := Lib.hid i1
        clear i1 o1
        go_wp2_with (fail)
        refine (Esc.whole_any W1 w1.heap.size _ [] [] r I1.out).mono ?_
        rintro e W3 ⟨rfl, rfl⟩
        rw [HWh.out]
        go_wp2
        go_roundw
        case rel => exact ⟨k + 1, r, by go_num, by omega, HF.out, I1.out, hbw1, .inr ⟨S, b, rfl, rfl, HB0.out, HRe.out⟩⟩
        case measure => simp [intOf]; omega
    · obtain rfl : k = s.size := by omega
      clear hst
      have HIs := Lib.hid (fun W => HIn.out s W (by omega))
      have hWt := fun W hW => Alive5.writeOf t (by omega) (Esc.write t.data.toList) rfl W hW
      have hRt := fun W => Ref.write_any t W (by omega)
      obtain ⟨Y, hY⟩ : ∃ Y : ByteArray, Y = ⟨(Esc.write t.data.toList).toArray⟩ := ⟨_, rfl⟩
      have HWt := Lib.hid hWt
      have HRt := Lib.hid hRt
      rw [← hY] at HWt HRt
      clear hWt hRt hY
      obtain ⟨⟨A, wA, eA⟩, hA⟩ : ∃ o, Esc.ans Esc.Rdr.zero s.data.toList [] = o := ⟨_, rfl⟩
      by_cases he : eA ≠ 0
      · have HRd := Lib.hid (fun W => Alive5.readOf s (by omega) ([], eA) (by unfold Esc.read; rw [hA]; exact if_pos he) W)
        have he1 : ((eA : Int) == 0) = false := beq_eq_false_iff_ne.mpr (by omega)
        have he2 : ((eA : Int) != 0) = true := by simp; omega
        have HA := Lib.hid hA
        clear hA he
        go_wp2_with (fail)
        refine (HIs.out _).mono ?_
        rintro e W1 ⟨⟨T, n, wh, er, rfl, her, hgood⟩, b2⟩
        rw [HA.out] at her hgood
        dsimp only at her hgood
        subst her
        clear hgood
        have c1 := hbw.trans (b2.mono hbs)
        clear b2
        go_wp2_with (fail)
        refine (HRd.out _).mono ?_
        rintro e W2 ⟨rfl, b3⟩
        have c2 := c1.trans (b3.mono c1.size)
        clear b3 c1
        go_wp2_with (fail)
        refine (step_nil _).mono ?_
        rintro e W3 ⟨rfl, rfl⟩
        have HT2 := Lib.hid (Go.Proofs.Utf8Tabs_below HT.out c2)
        go_wp2_with (fail)
        refine (HWt.out _ HT2.out).mono ?_
        rintro e W4 ⟨rfl, b4⟩
        have c3 := c2.trans (b4.mono c2.size)
        clear b4 c2
        go_wp2_with (fail)
        refine (HRt.out _).mono ?_
        rintro e W5 ⟨rfl, b5⟩
        have c4 := c3.trans (b5.mono c3.size)
        clear b5 c3
        go_wp2_with (fail)
        refine (whole_nil _).mono ?_
        rintro e W6 ⟨rfl, rfl⟩
        go_wp2
        go_ret
        exact ⟨Mem.ret_bool (by simp), c4⟩
      cases wA with
      | true =>
        obtain rfl : eA = 0 := by omega
        obtain ⟨X, hX⟩ : ∃ X : ByteArray, X = ⟨A.toArray⟩ := ⟨_, rfl⟩
        have HRd := Lib.hid (fun W => Alive5.readOf s (by omega) (A, 0) (by unfold Esc.read; rw [hA]; rfl) W)
        rw [← hX] at HRd
        have HX := Lib.hid hX
        clear hX
        have HA := Lib.hid hA
        clear hA he
        go_wp2_with (fail)
        refine (HIs.out _).mono ?_
        rintro e W1 ⟨⟨T, n, wh, er, rfl, her, hgood⟩, b2⟩
        rw [HA.out] at her hgood
        dsimp only at her hgood
        subst her
        obtain ⟨rfl, rfl⟩ := hgood rfl
        rw [← HX.out]
        clear hgood
        have c1 := hbw.trans (b2.mono hbs)
        clear b2
        go_wp2_with (fail)
        refine (HRd.out _).mono ?_
        rintro e W2 ⟨rfl, b3⟩
        have c2 := c1.trans (b3.mono c1.size)
        clear b3 c1
        go_wp2_with (fail)
        refine (step_nil _).mono ?_
        rintro e W3 ⟨rfl, rfl⟩
        have HT2 := Lib.hid (Go.Proofs.Utf8Tabs_below HT.out c2)
        go_wp2_with (fail)
        refine (HWt.out _ HT2.out).mono ?_
        rintro e W4 ⟨rfl, b4⟩
        have c3 := c2.trans (b4.mono c2.size)
        clear b4 c2
        go_wp2_with (fail)
        refine (HRt.out _).mono ?_
        rintro e W5 ⟨rfl, b5⟩
        have c4 := c3.trans (b5.mono c3.size)
        clear b5 c3
        go_wp2_with (fail)
        refine (whole_nil _).mono ?_
        rintro e W6 ⟨rfl, rfl⟩
        go_wp2
        go_ret
        exact ⟨Mem.ret_bool (by simp), c4⟩
      | false =>
        obtain rfl : eA = 0 := by omega
        have HRd := Lib.hid (fun W => Alive5.readOf s (by omega) ([], 3) (by unfold Esc.read; rw [hA]; rfl) W)
        have HA := Lib.hid hA
        clear hA he
        go_wp2_with (fail)
        refine (HIs.out _).mono ?_
        rintro e W1 ⟨⟨T, n, wh, er, rfl, her, hgood⟩, b2⟩
        rw [HA.out] at her hgood
        dsimp only at her hgood
        subst her
        obtain ⟨rfl, rfl⟩ := hgood rfl
        clear hgood
        have c1 := hbw.trans (b2.mono hbs)
        clear b2
        go_wp2_with (fail)
        refine (HRd.out _).mono ?_
        rintro e W2 ⟨rfl, b3⟩
        have c2 := c1.trans (b3.mono c1.size)
        clear b3 c1
        go_wp2_with (fail)
        refine (step_nil _).mono ?_
        rintro e W3 ⟨rfl, rfl⟩
        have HT2 := Lib.hid (Go.Proofs.Utf8Tabs_below HT.out c2)
        go_wp2_with (fail)
        refine (HWt.out _ HT2.out).mono ?_
        rintro e W4 ⟨rfl, b4⟩
        have c3 := c2.trans (b4.mono c2.size)
        clear b4 c2
        go_wp2_with (fail)
        refine (HRt.out _).mono ?_
        rintro e W5 ⟨rfl, b5⟩
        have c4 := c3.trans (b5.mono c3.size)
        clear b5 c3
        go_wp2_with (fail)
        refine (whole_nil _).mono ?_
        rintro e W6 ⟨rfl, rfl⟩
        go_wp2
        go_ret
        exact ⟨Mem.ret_bool (by simp), c4⟩
end Go.Proofs.YtnpbleaikdpjiaaDoor.escapeTells
