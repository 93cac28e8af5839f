/- EscapeJoins: the walk. -/
import Derived.Test.YtnpbleaikdpjiaaDoorAlive5
import Derived.Test.YtnpbleaikdpjiaaDoorEscJ
import Derived.OpenShut
namespace Go.Proofs.YtnpbleaikdpjiaaDoor.escapeJoins
open Go.RowKit

theorem write_length : ∀ l : List UInt8, (Esc.write l).length ≤ 6 * l.length
  | [] => by simp [Esc.write]
  | b :: l => by
    have h1 := Esc.esc1_length b
    have h2 := write_length l
    have e : Esc.write (b :: l) = Esc.esc1 b ++ Esc.write l := rfl
    rw [e, List.length_append, List.length_cons]
    omega

theorem ans_length : ∀ (l : List UInt8) (r : Esc.Rdr) (t : List UInt8), (Esc.ans r l t).1.length ≤ t.length + 4 * l.length
  | [], r, t => by simp [Esc.ans]
  | b :: l, r, t => by
    unfold Esc.ans
    split
    · dsimp only; omega
    · have h1 := Esc.step_length r b
      have h2 := ans_length l (r.step b).1 (t ++ (r.step b).2.1)
      rw [List.length_append] at h2
      rw [List.length_cons]
      omega

theorem read_length {l o : List UInt8} {n : Nat} (h : Esc.read l = (o, n)) : o.length ≤ 4 * l.length := by
  have h1 := ans_length l Esc.Rdr.zero []
  unfold Esc.read at h
  split at h
  · simp only [Prod.mk.injEq] at h
    rw [← h.1]; simp
  · split at h
    · simp only [Prod.mk.injEq] at h
      rw [← h.1]; simpa using h1
    · simp only [Prod.mk.injEq] at h
      rw [← h.1]; simp

theorem data_append (a b : ByteArray) : (a ++ b).data.toList = a.data.toList ++ b.data.toList := by
  rw [ByteArray.data_append, Array.toList_append]

set_option maxHeartbeats 2000000 in
theorem walk (a0 a1 : ByteArray) (_w0 : a0.size ≤ maxLen) (_w1 : a1.size ≤ maxLen) (w : World) (hT : Lib.Utf8Tabs 0 1 w) :
    Calls Tryd.prog 8 #[.string a0, .string a1] w fun e w' => e = .returned (.bool true) ∧ Below w.heap.size w w' := by
  have HT := Lib.hid hT
  clear hT
  by_cases h0 : a0.size > 100
  · go_enter Tryd.func8, Tryd.ntmps8
    go_wp2_with (fail)
    refine (Alive5.any w HT.out).mono ?_
    rintro e w1 ⟨rfl, b1⟩
    go_wp2
    go_ret
    exact ⟨rfl, b1⟩
  by_cases h1 : a1.size > 100
  · go_enter Tryd.func8, Tryd.ntmps8
    go_wp2_with (fail)
    refine (Alive5.any w HT.out).mono ?_
    rintro e w1 ⟨rfl, b1⟩
    go_wp2
    go_ret
    exact ⟨rfl, b1⟩
  have hs : (a0 ++ a1).size ≤ 200 := by rw [ByteArray.size_append]; omega
  obtain ⟨⟨o1, n1⟩, e1⟩ : ∃ o, Esc.read a0.data.toList = o := ⟨_, rfl⟩
  obtain ⟨⟨o2, n2⟩, e2⟩ : ∃ o, Esc.read a1.data.toList = o := ⟨_, rfl⟩
  obtain ⟨⟨o3, n3⟩, e3⟩ : ∃ o, Esc.read (a0 ++ a1).data.toList = o := ⟨_, rfl⟩
  have R1 := Lib.hid (fun W => Alive5.readOf a0 (by omega) _ e1 W)
  have R2 := Lib.hid (fun W => Alive5.readOf a1 (by omega) _ e2 W)
  have R3 := Lib.hid (fun W => Alive5.readOf (a0 ++ a1) (by omega) _ e3 W)
  have hj : n1 = 0 → n2 = 0 → n3 = 0 ∧ (⟨o3.toArray⟩ : ByteArray) = ⟨o1.toArray⟩ ++ ⟨o2.toArray⟩ := by
    rintro rfl rfl
    have := Esc.read_append e1 e2
    rw [← data_append, e3] at this
    simp only [Prod.mk.injEq] at this
    exact ⟨this.2, by rw [this.1, Mem.append_mk]⟩
  have q0 : a0.data.toList.length = a0.size := Array.length_toList
  have q1 : a1.data.toList.length = a1.size := Array.length_toList
  have l1 := write_length a0.data.toList
  have l2 := write_length a1.data.toList
  obtain ⟨Y, hY⟩ : ∃ Y : ByteArray, Y = ⟨(Esc.write a0.data.toList).toArray⟩ := ⟨_, rfl⟩
  obtain ⟨Z, hZ⟩ : ∃ Z : ByteArray, Z = ⟨(Esc.write a1.data.toList).toArray⟩ := ⟨_, rfl⟩
  have hYs : Y.size ≤ 600 := by rw [hY, Mem.size_mk]; omega
  have hZs : Z.size ≤ 600 := by rw [hZ, Mem.size_mk]; omega
  have W1 := Lib.hid (fun W hW => Alive5.writeOf a0 (by omega) _ rfl W hW)
  have W2 := Lib.hid (fun W hW => Alive5.writeOf a1 (by omega) _ rfl W hW)
  have W3 := Lib.hid (fun W hW => Alive5.writeOf (a0 ++ a1) (by omega) (Esc.write a0.data.toList ++ Esc.write a1.data.toList) (by rw [data_append, Esc.write_append]) W hW)
  rw [← hY] at W1
  rw [← hZ] at W2
  rw [← Mem.append_mk, ← hY, ← hZ] at W3
  have g1 : (⟨o1.toArray⟩ : ByteArray).size ≤ 400 := by
    have := read_length e1
    rw [Mem.size_mk]; omega
  have g2 : (⟨o2.toArray⟩ : ByteArray).size ≤ 400 := by
    have := read_length e2
    rw [Mem.size_mk]; omega
  generalize (⟨o1.toArray⟩ : ByteArray) = O1 at *
  generalize (⟨o2.toArray⟩ : ByteArray) = O2 at *
  generalize (⟨o3.toArray⟩ : ByteArray) = O3 at *
  clear e1 e2 e3 l1 l2 hY hZ q0 q1
  have hb : ((Y ++ Z).toList == (Y ++ Z).toList) = true := beq_self_eq_true _
  have hAdd : a0.size + a1.size ≤ 200 := by omega
  have HJ := Lib.hid hj
  clear hs hj
  go_enter Tryd.func8, Tryd.ntmps8
  go_wp2_with (fail)
  refine (Alive5.any w HT.out).mono ?_
  rintro e w1 ⟨rfl, b1⟩
  go_wp2_with (fail)
  refine (R1.out _).mono ?_
  rintro e w2 ⟨rfl, b2'⟩
  have b2 := b1.trans (b2'.mono b1.size)
  clear b1 b2'
  go_wp2_with (fail)
  refine (R2.out _).mono ?_
  rintro e w3 ⟨rfl, b3'⟩
  have b3 := b2.trans (b3'.mono b2.size)
  clear b2 b3'
  go_wp2_with (fail)
  refine (R3.out _).mono ?_
  rintro e w4 ⟨rfl, b4'⟩
  have b4 := b3.trans (b4'.mono b3.size)
  clear b3 b4'
  have HT4 := Lib.hid (Go.Proofs.Utf8Tabs_below HT.out b4)
  go_wp2_with (fail)
  refine (W3.out _ HT4.out).mono ?_
  rintro e w5 ⟨rfl, b5'⟩
  have b5 := b4.trans (b5'.mono b4.size)
  clear b4 b5' HT4
  have HT5 := Lib.hid (Go.Proofs.Utf8Tabs_below HT.out b5)
  go_wp2_with (fail)
  refine (W1.out _ HT5.out).mono ?_
  rintro e w6 ⟨rfl, b6'⟩
  have b6 := b5.trans (b6'.mono b5.size)
  clear b5 b6' HT5
  have HT6 := Lib.hid (Go.Proofs.Utf8Tabs_below HT.out b6)
  go_wp2_with (fail)
  refine (W2.out _ HT6.out).mono ?_
  rintro e w7 ⟨rfl, b7⟩
  go_wp2
  all_goals go_ret
  all_goals refine ⟨?_, b6.trans (b7.mono b6.size)⟩
  all_goals first
    | rfl
    | (have h := (HJ.out (by omega) (by omega)).1; exfalso; omega)
    | (have h := (HJ.out (by omega) (by omega)).2; refine Mem.ret_bool ?_; rw [h]; simp)
    | exact Mem.ret_bool (by simp)
end Go.Proofs.YtnpbleaikdpjiaaDoor.escapeJoins
