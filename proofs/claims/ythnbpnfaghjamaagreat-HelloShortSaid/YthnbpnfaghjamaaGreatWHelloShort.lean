/- HelloShort: the walk: a session that says too little is told so; one that begins wrongly, too. -/
import Derived.Test.YthnbpnfaghjamaaGreatM34
import Derived.Test.YthnbpnfaghjamaaGreatM35
namespace Go.Proofs.YthnbpnfaghjamaaGreat.helloShort
open Go.RowKit Pip

/-- One byte as a string. -/
theorem one_cv (x : UInt8) (k : Nat) (V : World) (h : Own.Has V [Own.row k 5 [.int .u8 (x.toNat : Int)]]) : (convert 47 9 (.slice (some ⟨k, 0, none⟩) 1 1)).run Tryz.prog V = .ok (.string ⟨([x] : List UInt8).toArray⟩) V := by
  have s := Own.Slc.row (e := 5) (xs := u8s [x]) k [] [] (by rw [u8s_length]; exact (by decide : 1 ≤ maxLen))
  rw [u8s_length] at s
  simp only [List.length_nil, Nat.add_zero, List.nil_append, List.append_nil] at s
  exact Own.Slc.run_string [x] 47 9 Tryz.underlying47 Tryz.underlying5 Tryz.underlying9 s h

set_option maxRecDepth 100000 in
set_option maxHeartbeats 4000000 in
theorem walk (a0 : Setup) (a1 a2 : Int) (_w0 : a0.Fine) (_w1 : (Lit.int .i64 a1).wf = true) (w2 : (Lit.int .u8 a2).wf = true) (w : World) : Calls Tryz.prog 15 #[a0.val, .int .i64 a1, .int .u8 a2] w fun e w' => e = .returned (.bool true) ∧ Below w.heap.size w w' := by
  have HA := Lib.hid (fun u => alive_any u)
  have BT := Lib.hid (fun (u v : World) (b : Below w.heap.size w u) (b2 : Below u.heap.size u v) => (b.trans (b2.mono b.size) : Below w.heap.size w v))
  have B0 := Lib.hid (fun o u (b : Below w.heap.size w u) => b.alloc b.size o)
  have B1 := Lib.hid (Below.refl w.heap.size w)
  have H0 := Lib.hid (fun u => hput_all a0 u)
  by_cases hr : right a0 = false
  · rw [hr] at H0
    obtain ⟨X, hX⟩ : ∃ X, X = putBytes a0 := ⟨_, rfl⟩
    rw [← hX] at H0
    obtain ⟨f, t, d, g, l⟩ := a0
    unfold Setup.val at H0 ⊢
    simp only at H0 ⊢
    clear hX hr
    go_enter Tryz.func15, Tryz.ntmps15
    go_wp2_with (fail)
    refine (H0.out _).mono ?_
    rintro e w1 ⟨rfl, b1⟩
    have HB1 := Lib.hid (BT.out _ _ (B0.out _ _ B1.out) b1)
    clear b1
    go_wp2_with (fail)
    refine (HA.out _).mono ?_
    rintro e w3 ⟨rfl, b3⟩
    go_wp2
    go_ret
    exact ⟨rfl, BT.out _ _ HB1.out b3⟩
  have hr' : right a0 = true := by simpa using hr
  rw [hr', putBytes_right hr'] at H0
  obtain ⟨S, hS⟩ : ∃ X : ByteArray, X = ⟨(helloBytes a0).toArray⟩ := ⟨_, rfl⟩
  have zS : S.size = 8 := by subst hS; rfl
  have dS : S.data.toList = helloBytes a0 := by rw [hS]
  rw [← hS] at H0
  have quick : (a1 < 0 ∨ 8 ≤ a1 ∨ a2 = 84) → Calls Tryz.prog 15 #[a0.val, .int .i64 a1, .int .u8 a2] w fun e w' => e = .returned (.bool true) ∧ Below w.heap.size w w' := by
    intro hq
    clear dS hS hr hr'
    obtain ⟨f, t, d, g, l⟩ := a0
    unfold Setup.val at H0 ⊢
    simp only at H0 ⊢
    have hk : a1 < 0 ∨ (0 ≤ a1 ∧ 8 ≤ a1) ∨ (0 ≤ a1 ∧ a1 < 8 ∧ a2 = 84) := by omega
    clear hq
    rcases hk with q | ⟨q, q1⟩ | ⟨q, q1, rfl⟩
    all_goals
      go_enter Tryz.func15, Tryz.ntmps15
      go_wp2_with (fail)
      refine (H0.out _).mono ?_
      rintro e w1 ⟨rfl, b1⟩
      have HB1 := Lib.hid (BT.out _ _ (B0.out _ _ B1.out) b1)
      clear b1
      go_wp2_with (fail)
      refine (HA.out _).mono ?_
      rintro e w3 ⟨rfl, b3⟩
      go_wp2
      go_ret
      exact ⟨rfl, BT.out _ _ HB1.out b3⟩
  by_cases hq : a1 < 0 ∨ 8 ≤ a1 ∨ a2 = 84
  · exact quick hq
  clear quick
  obtain ⟨n, rfl⟩ : ∃ n : Nat, a1 = (n : Int) := ⟨a1.toNat, by omega⟩
  have hwf : 0 ≤ a2 ∧ a2 ≤ 255 := by
    have h' : (decide ((0 : Int) ≤ a2) && decide (a2 ≤ (255 : Int))) = true := w2
    simpa using h'
  obtain ⟨x, rfl⟩ : ∃ x : UInt8, a2 = (x.toNat : Int) := ⟨UInt8.ofNat a2.toNat, by rw [UInt8.toNat_ofNat']; omega⟩
  have hx84 : x ≠ 84 := fun h => hq (.inr (.inr (by rw [h]; decide)))
  have hn8 : n < 8 := by omega
  have xn : ¬ (x.toNat : Int) = 84 := by omega
  have d1 : (S.extract 0 n).data.toList = (helloBytes a0).take n := by rw [extract_take, dS]
  have HB1 := Lib.hid (fun u => hbatch_bad (S.extract 0 n) 3 Setup.zero (by rw [d1]; exact get_short a0 n hn8) (by decide) u)
  obtain ⟨Y, hY⟩ : ∃ Y : ByteArray, Y = ⟨([x] : List UInt8).toArray⟩ := ⟨_, rfl⟩
  obtain ⟨Z, hZ⟩ : ∃ Z : ByteArray, Z = Y ++ S := ⟨_, rfl⟩
  have dZ : Z.data.toList = x :: helloBytes a0 := by rw [hZ, hY]; simp [dS]
  have HB2 := Lib.hid (fun u => hbatch_bad Z 2 Setup.zero (by rw [dZ]; exact first_other _ x hx84 _ rfl) (by decide) u)
  have HB3 := Lib.hid (fun u => hbatch_good S a0 (by rw [dS]; exact get_whole a0 hr') (by omega) [] 3 (by decide) (fun v => batch_none_any a0 hr' (S.extract 8 S.size) (by rw [ByteArray.size_extract]; omega) (fun _ => []) v) u)
  have HN3 := Lib.hid (fun u => no_any 3 u)
  have HN2 := Lib.hid (fun u => no_any 2 u)
  have HYes := Lib.hid (fun u => yes_any u)
  have HTr := Lib.hid (fun u => trailer_any 3 u)
  obtain ⟨P1, hP1⟩ : ∃ P : ByteArray, P = ⟨([78, u8e 3] : List UInt8).toArray⟩ := ⟨_, rfl⟩
  obtain ⟨P2, hP2⟩ : ∃ P : ByteArray, P = ⟨([78, u8e 2] : List UInt8).toArray⟩ := ⟨_, rfl⟩
  obtain ⟨P3, hP3⟩ : ∃ P : ByteArray, P = ⟨(75 :: ([] : List UInt8) ++ [255, u8e 3]).toArray⟩ := ⟨_, rfl⟩
  obtain ⟨T3, hT3⟩ : ∃ P : ByteArray, P = ⟨([255, UInt8.ofNat ((3 : Int) % 256).toNat] : List UInt8).toArray⟩ := ⟨_, rfl⟩
  have hN3 : (⟨([78, UInt8.ofNat ((3 : Int) % 256).toNat] : List UInt8).toArray⟩ : ByteArray) = P1 := by rw [hP1]; rfl
  have hN2 : (⟨([78, UInt8.ofNat ((2 : Int) % 256).toNat] : List UInt8).toArray⟩ : ByteArray) = P2 := by rw [hP2]; rfl
  have hcat3 : (⟨#[75]⟩ : ByteArray) ++ T3 = P3 := by rw [hT3, hP3]; exact cat_bytes0 [75] _
  have zT : T3.size = 2 := by rw [hT3]; rfl
  have zY : Y.size = 1 := by rw [hY]; rfl
  have hcatZ : Y ++ S = Z := hZ.symm
  rw [← hP1] at HB1
  rw [← hP2] at HB2
  rw [← hP3] at HB3
  rw [hN3] at HN3
  rw [hN2] at HN2
  rw [← hT3] at HTr
  have s1 : (P1.toList == P1.toList) = true := beq_self_eq_true _
  have s2 : (P2.toList == P2.toList) = true := beq_self_eq_true _
  have s3 : (P3.toList == P3.toList) = true := beq_self_eq_true _
  have hcv := fun W : World => one_cv x W.heap.size (W.alloc (.cells #[.int .u8 (x.toNat : Int)] 5)) ((Own.Turn.refl (Own.Has.nil W)).allocRow W.heap.size rfl 5 [.int .u8 (x.toNat : Int)]).has
  rw [← hY] at hcv
  have q0 : decide ((n : Int) < 0) = false := by rw [decide_eq_false_iff_not]; omega
  have q1 : decide ((8 : Int) ≤ (n : Int)) = false := by rw [decide_eq_false_iff_not]; omega
  have q3 : (n : Int) < 8 := by omega
  have q2 : (n : Int) ≤ (S.size : Int) := by omega
  obtain ⟨f, t, d, g, l⟩ := a0
  unfold Setup.val at H0 ⊢
  simp only at H0 ⊢
  clear hP1 hP2 hP3 hT3 hN3 hN2 hY hZ dZ d1 dS hS hr hr' hq hx84 hn8 hwf w2 _w0 _w1
  go_enter Tryz.func15, Tryz.ntmps15
  go_wp2_with (fail)
  refine (H0.out _).mono ?_
  rintro e w1 ⟨rfl, b1⟩
  have C1 := Lib.hid (BT.out _ _ (B0.out _ _ B1.out) b1)
  clear b1
  go_wp2_with (fail)
  refine (HA.out _).mono ?_
  rintro e w3 ⟨rfl, b3⟩
  have C2 := Lib.hid (BT.out _ _ C1.out b3)
  clear b3
  go_wp2_with (fail)
  refine (HB1.out _).mono ?_
  rintro e w4 ⟨rfl, b4⟩
  have C3 := Lib.hid (BT.out _ _ C2.out b4)
  clear b4
  go_wp2_with (fail)
  refine (HN3.out _).mono ?_
  rintro e w5 ⟨rfl, b5⟩
  have C4 := Lib.hid (BT.out _ _ C3.out b5)
  clear b5
  go_wp2_with (fail)
  refine (HB2.out _).mono ?_
  rintro e w6 ⟨rfl, b6⟩
  have C5 := Lib.hid (BT.out _ _ (B0.out _ _ C4.out) b6)
  clear b6
  go_wp2_with (fail)
  refine (HN2.out _).mono ?_
  rintro e w7 ⟨rfl, b7⟩
  have C6 := Lib.hid (BT.out _ _ C5.out b7)
  clear b7
  go_wp2_with (fail)
  refine (HB3.out _).mono ?_
  rintro e w8 ⟨rfl, b8⟩
  have C7 := Lib.hid (BT.out _ _ C6.out b8)
  clear b8
  go_wp2_with (fail)
  refine (HYes.out _).mono ?_
  rintro e w9 ⟨rfl, rfl⟩
  go_wp2_with (fail)
  refine (HTr.out _).mono ?_
  rintro e w10 ⟨rfl, b10⟩
  have C8 := Lib.hid (BT.out _ _ C7.out b10)
  clear b10
  go_wp2
  go_ret
  exact ⟨rfl, C8.out⟩
end Go.Proofs.YthnbpnfaghjamaaGreat.helloShort
