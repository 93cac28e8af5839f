/- escape.Read: it returns what 'Esc.read' says of its bytes. -/
import Derived.Test.YtnpbleaikdpjiaaDoorEscR
import Derived.Test.YtnpbleaikdpjiaaDoorEscF
import Derived.Test.YtnpbleaikdpjiaaDoorBldS
namespace Go.Proofs.YtnpbleaikdpjiaaDoor
open Go.RowKit
namespace Esc

theorem ans_stop (r : Rdr) (l t : List UInt8) (x : UInt8) (n : Nat) (hn : (r.step x).2.2 = n) (h0 : n ≠ 0) : (ans r (x :: l) t).2.2 = n := by
  simp [ans, hn, h0]

def readOut (o : List UInt8 × Nat) : Ending := .returned (.tuple #[.string ⟨o.1.toArray⟩, .int .i64 o.2])

set_option maxRecDepth 100000 in
set_option maxHeartbeats 2000000 in
theorem read_any (s : ByteArray) (w : World) (hs : s.size ≤ 1000) :
    Calls Tryd.prog 14 #[.string s] w fun e w' => e = readOut (read s.data.toList) ∧ Below w.heap.size w w' := by
  go_enter Tryd.func14, Tryd.ntmps14
  go_wp2
  go_loopw [11] (fun i wr => ∃ (k : Nat) (r : Rdr) (acc : List UInt8), i = .int .i64 k ∧ k ≤ s.size ∧ r.Fits ∧
      At.Is wr w.heap.size 28 [] r.enc [] ∧ Lib.IsBuilderF 55 5 w.heap.size (w.heap.size + 1) (Lib.byteCells acc) wr ∧ Below w.heap.size w wr ∧ acc.length ≤ 4 * k ∧
      ans r (s.data.toList.drop k) acc = ans Rdr.zero s.data.toList []) (fun i _ => s.size - (intOf i).toNat)
  case atStart =>
    exact ⟨0, Rdr.zero, [], rfl, by omega, Rdr.zero_fits, (At.Is.new w Rdr.zero.enc _).alloc _, Bld.fresh _ _ _ (by omega) (by simp), ((Below.refl _ w).alloc (Nat.le_refl _) _).alloc (by simp) _, by simp, rfl⟩
  case round =>
    obtain ⟨k, r, acc, rfl, hk, hf, hI, hB, hbw, hal, heq⟩ := hrel
    have HI := Lib.hid hI
    have HB := Lib.hid hB
    have Heq := Lib.hid heq
    have HF := Lib.hid hf
    have hbs := hbw.size
    clear hI hB heq hf
    by_cases hlt : k < s.size
    · have Hd := Lib.hid (Mem.drop_one s k hlt)
      obtain ⟨o, ho⟩ : ∃ o, o = r.step (s[k]'hlt) := ⟨_, rfl⟩
      have Ho := Lib.hid ho
      have hl4 : o.2.1.length ≤ 4 := by rw [ho]; exact step_length _ _
      clear ho
      by_cases h0 : o.2.2 = 0
      · have hb0 : ((o.2.2 : Int) != 0) = false := by simp [h0]
        have H0 := Lib.hid h0
        clear h0
        go_wp2_with (fail)
        refine (step_any wr w.heap.size _ [] [] r (s[k]'hlt) HF.out HI.out).mono ?_
        rintro e W1 ⟨rfl, i1, o1⟩
        rw [← Ho.out] at i1 ⊢
        rw [stepOut]
        have B1 := Lib.hid (Bld.only HB.out HI.out (by decide) (by decide) o1)
        have hbw1 := At.Only.below hbw o1 (Nat.le_refl _) hbs
        have hbs1 := hbw1.size
        have I1 := Lib.hid i1
        clear i1
        go_wp2_with (fail)
        refine (Bld.ws w.heap.size (w.heap.size + 1) acc ⟨o.2.1.toArray⟩ W1 B1.out (by rw [Mem.size_mk]; omega) hbs1).mono ?_
        rintro e W2 ⟨rfl, b2, bb2, k2⟩
        have I2 := Lib.hid (Bld.kept I1.out (by decide) (by omega) k2)
        have B2 := Lib.hid b2
        clear b2
        go_wp2
        go_roundw
        case rel =>
          refine ⟨k + 1, o.1, acc ++ o.2.1, by go_num, by omega, by rw [Ho.out]; exact step_fits HF.out _, I2.out, B2.out, hbw1.trans bb2, by rw [List.length_append]; omega, ?_⟩
          rw [← Heq.out, Hd.out]
          exact (ans_ok r o.1 _ _ _ _ (by rw [← Ho.out, ← H0.out])).symm
        case measure => simp [intOf]; omega
      · have hb0 : ((o.2.2 : Int) != 0) = true := by simp; omega
        have H0 := Lib.hid h0
        clear h0
        go_wp2_with (fail)
        refine (step_any wr w.heap.size _ [] [] r (s[k]'hlt) HF.out HI.out).mono ?_
        rintro e W1 ⟨rfl, i1, o1⟩
        rw [← Ho.out]
        rw [stepOut]
        have hbw1 := At.Only.below hbw o1 (Nat.le_refl _) hbs
        clear i1
        go_wp2
        go_ret2
        refine ⟨?_, hbw1⟩
        have h1 : (ans Rdr.zero s.data.toList []).2.2 = o.2.2 := by
          rw [← Heq.out, Hd.out]
          exact ans_stop r _ _ _ _ (by rw [← Ho.out]) H0.out
        rw [read, if_pos (by rw [h1]; exact H0.out), h1]
        rfl
    · have Hd := Lib.hid (Mem.drop_none s k (by omega))
      have ha : ans Rdr.zero s.data.toList [] = (acc, r.whole, 0) := by rw [← Heq.out, Hd.out]; rfl
      have HA := Lib.hid ha
      clear ha
      cases hw : r.whole with
      | true =>
        have HW := Lib.hid hw
        clear hw
        go_wp2_with (fail)
        refine (whole_any wr w.heap.size _ [] [] r HI.out).mono ?_
        rintro e W1 ⟨rfl, rfl⟩
        rw [HW.out]
        go_wp2_with (fail)
        refine (Tryd.Builder_String_any_k w.heap.size (w.heap.size + 1) acc wr HB.out hbs).mono ?_
        rintro e W2 ⟨rfl, _, b2, _⟩
        go_wp2
        go_ret2
        refine ⟨?_, hbw.trans b2⟩
        rw [read, HA.out, HW.out]
        rfl
      | false =>
        have HW := Lib.hid hw
        clear hw
        go_wp2_with (fail)
        refine (whole_any wr w.heap.size _ [] [] r HI.out).mono ?_
        rintro e W1 ⟨rfl, rfl⟩
        rw [HW.out]
        go_wp2
        go_ret2
        refine ⟨?_, hbw⟩
        rw [read, HA.out, HW.out]
        rfl
end Esc
end Go.Proofs.YtnpbleaikdpjiaaDoor
