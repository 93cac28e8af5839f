/- truchmanref1.Inside, of a whole inside without a bound. -/
import Derived.Test.YtnpbleaikdpjiaaDoorRefInA
namespace Go.Proofs.YtnpbleaikdpjiaaDoor
open Go.RowKit
namespace Ref
set_option maxRecDepth 100000 in
set_option maxHeartbeats 8000000 in
theorem inside_any (s : ByteArray) (w : World) (hs : s.size ≤ 1000) : Calls Tryd.prog 13 #[.string s, .bool false, .int .i64 0] w fun e w' => InOut s.data.toList e ∧ Below w.heap.size w w' := by
  go_enter Tryd.func13, Tryd.ntmps13
  go_wp2
  go_loopw [10, 11] (fun o i wr => ∃ (k : Nat) (r : Esc.Rdr) (acc : List UInt8) (S : ByteArray), i = .int .i64 k ∧ k ≤ s.size ∧ o = .string S ∧ S = ⟨acc.toArray⟩ ∧ r.Fresh ∧ S.size ≤ 4 * k ∧
      Esc.ans r (s.data.toList.drop k) acc = Esc.ans Esc.Rdr.zero s.data.toList [] ∧ Below w.heap.size w wr) (fun _ i _ => s.size - (intOf i).toNat)
  case atStart => exact ⟨0, Esc.Rdr.zero, [], _, rfl, by omega, rfl, rfl, Esc.Rdr.zero_fresh, by decide, rfl, Below.refl _ _⟩
  case round =>
    obtain ⟨k, r, acc, S, rfl, hk, rfl, hS, hf, hSs, heq, hbw⟩ := hrel
    have HS := Lib.hid hS
    have HF := Lib.hid hf
    have HE := Lib.hid heq
    have hbs := hbw.size
    clear hS hf heq
    by_cases hlt : k < s.size
    · obtain ⟨c, hc⟩ : ∃ c, s[k]'hlt = c := ⟨_, rfl⟩
      have HD := Lib.hid (hc ▸ Mem.drop_one s k hlt : s.data.toList.drop k = c :: s.data.toList.drop (k + 1))
      have hlk : (k : Int) < s.size := by omega
      by_cases c34 : c = 34
      · as_aux_lemma =>
          have HB := Lib.hid (show (Esc.ans r (s.data.toList.drop k) acc).2.2 = 2 by rw [HD.out]; exact Esc.ans_bad r c _ _ 2 (Esc.step_ctl HF.out.e HF.out.state HF.out.pair c (.inr c34)) (by decide))
          have t34 : ((c.toNat : Int) == 34) = true := by rw [Int64.byte_eq c 34 34 rfl, c34]; rfl
          clear c34
          go_wp2
          refine bodyPost_ret (results_tmp4 rfl _ _ _) rfl ⟨?_, hbw⟩
          exact InOut.bad HE.out HB.out (by decide)
      by_cases c32 : c.toNat < 32
      · as_aux_lemma =>
          have HB := Lib.hid (show (Esc.ans r (s.data.toList.drop k) acc).2.2 = 2 by rw [HD.out]; exact Esc.ans_bad r c _ _ 2 (Esc.step_ctl HF.out.e HF.out.state HF.out.pair c (.inl c32)) (by decide))
          have t34 : ((c.toNat : Int) == 34) = false := by rw [Int64.byte_eq c 34 34 rfl]; exact beq_eq_false_iff_ne.mpr c34
          have t32 : (c.toNat : Int) < 32 := by omega
          clear c34 c32
          go_wp2
          refine bodyPost_ret (results_tmp4 rfl _ _ _) rfl ⟨?_, hbw⟩
          exact InOut.bad HE.out HB.out (by decide)
      have t34 : ((c.toNat : Int) == 34) = false := by rw [Int64.byte_eq c 34 34 rfl]; exact beq_eq_false_iff_ne.mpr c34
      have t32 : (32 : Int) ≤ (c.toNat : Int) := by omega
      have HC := Lib.hid (show 32 ≤ c.toNat ∧ c ≠ 34 from ⟨by omega, c34⟩)
      clear c34 c32
      by_cases c92 : c = 92
      · have t92 : ((c.toNat : Int) == 92) = true := by rw [Int64.byte_eq c 92 92 rfl, c92]; rfl
        have HD0 := Lib.hid (c92 ▸ HD.out : s.data.toList.drop k = 92 :: s.data.toList.drop (k + 1))
        clear c92
        by_cases hl1 : k + 1 < s.size
        · obtain ⟨d, hd⟩ : ∃ d, s[k + 1]'hl1 = d := ⟨_, rfl⟩
          have HD2 := Lib.hid (show s.data.toList.drop k = 92 :: d :: s.data.toList.drop (k + 2) by rw [HD0.out, Mem.drop_one s (k + 1) hl1, hd])
          have hl1' : (k : Int) + 1 < s.size := by omega
          have hsl := slice_at s (k + 1) ((k : Int) + 1) ((k : Int) + 2) (by omega) (by omega) hl1 d hd
          clear HD HD0
          by_cases g34 : d = 34
          · as_aux_lemma =>
              subst g34
              obtain ⟨r', hr', ha'⟩ := back_letter HF.out 34 34 (by decide) rfl (s.data.toList.drop (k + 2)) acc
              have HA := Lib.hid ha'
              clear ha'
              go_wp2
              go_roundw
              case rel => exact ⟨k + 2, r', acc ++ [34], S ++ ⟨#[34]⟩, by go_num, by omega, rfl, by rw [HS.out, Mem.append_mk], hr', by rw [size_snoc]; omega, by rw [← HE.out, HD2.out]; exact HA.out.symm, hbw⟩
              case measure => simp [intOf]; omega
          by_cases g92 : d = 92
          · as_aux_lemma =>
              subst g92
              obtain ⟨r', hr', ha'⟩ := back_letter HF.out 92 92 (by decide) rfl (s.data.toList.drop (k + 2)) acc
              have HA := Lib.hid ha'
              clear ha'
              go_wp2
              go_roundw
              case rel => exact ⟨k + 2, r', acc ++ [92], S ++ ⟨#[92]⟩, by go_num, by omega, rfl, by rw [HS.out, Mem.append_mk], hr', by rw [size_snoc]; omega, by rw [← HE.out, HD2.out]; exact HA.out.symm, hbw⟩
              case measure => simp [intOf]; omega
          by_cases g47 : d = 47
          · as_aux_lemma =>
              subst g47
              obtain ⟨r', hr', ha'⟩ := back_letter HF.out 47 47 (by decide) rfl (s.data.toList.drop (k + 2)) acc
              have HA := Lib.hid ha'
              clear ha'
              go_wp2
              go_roundw
              case rel => exact ⟨k + 2, r', acc ++ [47], S ++ ⟨#[47]⟩, by go_num, by omega, rfl, by rw [HS.out, Mem.append_mk], hr', by rw [size_snoc]; omega, by rw [← HE.out, HD2.out]; exact HA.out.symm, hbw⟩
              case measure => simp [intOf]; omega
          by_cases g98 : d = 98
          · as_aux_lemma =>
              subst g98
              obtain ⟨r', hr', ha'⟩ := back_letter HF.out 98 8 (by decide) rfl (s.data.toList.drop (k + 2)) acc
              have HA := Lib.hid ha'
              clear ha'
              go_wp2
              go_roundw
              case rel => exact ⟨k + 2, r', acc ++ [8], S ++ ⟨#[8]⟩, by go_num, by omega, rfl, by rw [HS.out, Mem.append_mk], hr', by rw [size_snoc]; omega, by rw [← HE.out, HD2.out]; exact HA.out.symm, hbw⟩
              case measure => simp [intOf]; omega
          by_cases g102 : d = 102
          · as_aux_lemma =>
              subst g102
              obtain ⟨r', hr', ha'⟩ := back_letter HF.out 102 12 (by decide) rfl (s.data.toList.drop (k + 2)) acc
              have HA := Lib.hid ha'
              clear ha'
              go_wp2
              go_roundw
              case rel => exact ⟨k + 2, r', acc ++ [12], S ++ ⟨#[12]⟩, by go_num, by omega, rfl, by rw [HS.out, Mem.append_mk], hr', by rw [size_snoc]; omega, by rw [← HE.out, HD2.out]; exact HA.out.symm, hbw⟩
              case measure => simp [intOf]; omega
          by_cases g110 : d = 110
          · as_aux_lemma =>
              subst g110
              obtain ⟨r', hr', ha'⟩ := back_letter HF.out 110 10 (by decide) rfl (s.data.toList.drop (k + 2)) acc
              have HA := Lib.hid ha'
              clear ha'
              go_wp2
              go_roundw
              case rel => exact ⟨k + 2, r', acc ++ [10], S ++ ⟨#[10]⟩, by go_num, by omega, rfl, by rw [HS.out, Mem.append_mk], hr', by rw [size_snoc]; omega, by rw [← HE.out, HD2.out]; exact HA.out.symm, hbw⟩
              case measure => simp [intOf]; omega
          by_cases g114 : d = 114
          · as_aux_lemma =>
              subst g114
              obtain ⟨r', hr', ha'⟩ := back_letter HF.out 114 13 (by decide) rfl (s.data.toList.drop (k + 2)) acc
              have HA := Lib.hid ha'
              clear ha'
              go_wp2
              go_roundw
              case rel => exact ⟨k + 2, r', acc ++ [13], S ++ ⟨#[13]⟩, by go_num, by omega, rfl, by rw [HS.out, Mem.append_mk], hr', by rw [size_snoc]; omega, by rw [← HE.out, HD2.out]; exact HA.out.symm, hbw⟩
              case measure => simp [intOf]; omega
          by_cases g116 : d = 116
          · as_aux_lemma =>
              subst g116
              obtain ⟨r', hr', ha'⟩ := back_letter HF.out 116 9 (by decide) rfl (s.data.toList.drop (k + 2)) acc
              have HA := Lib.hid ha'
              clear ha'
              go_wp2
              go_roundw
              case rel => exact ⟨k + 2, r', acc ++ [9], S ++ ⟨#[9]⟩, by go_num, by omega, rfl, by rw [HS.out, Mem.append_mk], hr', by rw [size_snoc]; omega, by rw [← HE.out, HD2.out]; exact HA.out.symm, hbw⟩
              case measure => simp [intOf]; omega
          have hsn := short_none d g34 g92 g47 g98 g102 g110 g114 g116
          have HSN := Lib.hid hsn
          have d34 : ((d.toNat : Int) == 34) = false := by rw [Int64.byte_eq d 34 34 rfl]; exact beq_eq_false_iff_ne.mpr g34
          have d92 : ((d.toNat : Int) == 92) = false := by rw [Int64.byte_eq d 92 92 rfl]; exact beq_eq_false_iff_ne.mpr g92
          have d47 : ((d.toNat : Int) == 47) = false := by rw [Int64.byte_eq d 47 47 rfl]; exact beq_eq_false_iff_ne.mpr g47
          have d98 : ((d.toNat : Int) == 98) = false := by rw [Int64.byte_eq d 98 98 rfl]; exact beq_eq_false_iff_ne.mpr g98
          have d102 : ((d.toNat : Int) == 102) = false := by rw [Int64.byte_eq d 102 102 rfl]; exact beq_eq_false_iff_ne.mpr g102
          have d110 : ((d.toNat : Int) == 110) = false := by rw [Int64.byte_eq d 110 110 rfl]; exact beq_eq_false_iff_ne.mpr g110
          have d114 : ((d.toNat : Int) == 114) = false := by rw [Int64.byte_eq d 114 114 rfl]; exact beq_eq_false_iff_ne.mpr g114
          have d116 : ((d.toNat : Int) == 116) = false := by rw [Int64.byte_eq d 116 116 rfl]; exact beq_eq_false_iff_ne.mpr g116
          clear hsn g34 g92 g47 g98 g102 g110 g114 g116 hsl
          by_cases g117 : d = 117
          · subst g117
            obtain ⟨r2, hr2, ha2⟩ := back_u HF.out (s.data.toList.drop (k + 2)) acc
            rw [← HD2.out, HE.out] at ha2
            obtain ⟨⟨v, n, e⟩, ho⟩ : ∃ o, Esc.fourGo 4 (s.data.toList.drop (k + 2)) 0 0 = o := ⟨_, rfl⟩
            obtain ⟨V, hV⟩ : ∃ V : Int, V = (v : Int) := ⟨_, rfl⟩
            have hfo := four_ans' (s.data.toList.drop (k + 2)) r2 acc hr2 v n e ho
            have HFo := Lib.hid (fun W => four_of s (k + 2) (by omega) hs v n e V hV ho W)
            have hs2 := slice_from s (k + 2) ((k : Int) + 2) (by omega) (by omega)
            have HA2 := Lib.hid ha2
            have HVV := Lib.hid hV
            clear ha2 hr2 ho
            rcases hfo with ⟨rfl, hb⟩ | ⟨rfl, hn4, hb⟩ | ⟨rfl, rfl, hlen, hv16, hb⟩
            · as_aux_lemma =>
                have HB := Lib.hid hb
                clear hb hV
                go_wp2_with (fail)
                refine (HFo.out _).mono ?_
                rintro e W1 ⟨rfl, rfl⟩
                go_wp2
                refine bodyPost_ret (results_tmp4 rfl _ _ _) rfl ⟨?_, hbw⟩
                exact InOut.bad HA2.out.symm HB.out (by decide)
            · as_aux_lemma =>
                have HB := Lib.hid hb
                have hn4' : (n : Int) < 4 := by omega
                clear hb hV
                go_wp2_with (fail)
                refine (HFo.out _).mono ?_
                rintro e W1 ⟨rfl, rfl⟩
                go_wp2
                refine bodyPost_ret (results_tmp4 rfl _ _ _) rfl ⟨?_, hbw⟩
                exact InOut.good HA2.out.symm HB.out HS.out
            · have hlen' : k + 6 ≤ s.size := by rw [List.length_drop, Array.length_toList] at hlen; have : s.data.size = s.size := rfl; omega
              have hdd : (s.data.toList.drop (k + 2)).drop 4 = s.data.toList.drop (k + 6) := by rw [List.drop_drop]
              rw [hdd] at hb
              have hV16 : V < 65536 := by omega
              have hV0 : 0 ≤ V := by omega
              rcases hb with ⟨h1, h2, hb⟩ | ⟨h1, h2, r3, hr3, hb⟩ | ⟨h1, h2, r3, hr3, hb⟩
              · as_aux_lemma =>
                  have HB := Lib.hid hb
                  have q1 : 56320 ≤ V := by omega
                  have q2 : V < 57344 := by omega
                  clear hb hV h1 h2 hv16
                  go_wp2_with (fail)
                  refine (HFo.out _).mono ?_
                  rintro e W1 ⟨rfl, rfl⟩
                  go_wp2
                  refine bodyPost_ret (results_tmp4 rfl _ _ _) rfl ⟨?_, hbw⟩
                  exact InOut.bad HA2.out.symm HB.out (by decide)
              · have q1 : 55296 ≤ V := by omega
                have q2 : V < 56320 := by omega
                obtain ⟨⟨n6, b6⟩, ho6⟩ : ∃ o, Esc.lowGo 6 (s.data.toList.drop (k + 6)) 0 = o := ⟨_, rfl⟩
                have hlo := Esc.low_ans (s.data.toList.drop (k + 6)) r3 v acc (by omega) hr3
                rw [ho6] at hlo
                dsimp only at hlo
                have HLo := Lib.hid (fun W => low_of s (k + 6) hlen' hs n6 b6 ho6 W)
                have hs6 := slice_from s (k + 6) ((k : Int) + 6) (by omega) (by omega)
                have HB3 := Lib.hid hb
                clear hb h1 h2 hv16 ho6
                rcases hlo with ⟨rfl, hb⟩ | ⟨rfl, hn6, hb⟩ | ⟨rfl, rfl, hlen6, g1, g2, g3, r4, hr4, hb⟩
                · as_aux_lemma =>
                    have HB := Lib.hid hb
                    clear hb hV
                    go_wp2_with (fail)
                    refine (HFo.out _).mono ?_
                    rintro e W1 ⟨rfl, rfl⟩
                    go_wp2_with (fail)
                    refine (HLo.out _).mono ?_
                    rintro e W1 ⟨rfl, rfl⟩
                    go_wp2
                    refine bodyPost_ret (results_tmp4 rfl _ _ _) rfl ⟨?_, hbw⟩
                    exact InOut.bad (HB3.out.symm.trans HA2.out.symm) HB.out (by decide)
                · as_aux_lemma =>
                    have HB := Lib.hid hb
                    have hn6' : (n6 : Int) < 6 := by omega
                    clear hb hV
                    go_wp2_with (fail)
                    refine (HFo.out _).mono ?_
                    rintro e W1 ⟨rfl, rfl⟩
                    go_wp2_with (fail)
                    refine (HLo.out _).mono ?_
                    rintro e W1 ⟨rfl, rfl⟩
                    go_wp2
                    refine bodyPost_ret (results_tmp4 rfl _ _ _) rfl ⟨?_, hbw⟩
                    exact InOut.good (HB3.out.symm.trans HA2.out.symm) HB.out HS.out
                · as_aux_lemma =>
                    have hlen6' : k + 12 ≤ s.size := by rw [List.length_drop, Array.length_toList] at hlen6; have : s.data.size = s.size := rfl; omega
                    have hd8 : (s.data.toList.drop (k + 6)).drop 2 = s.data.toList.drop (k + 8) := by rw [List.drop_drop]
                    have hd12 : (s.data.toList.drop (k + 6)).drop 6 = s.data.toList.drop (k + 12) := by rw [List.drop_drop]
                    rw [hd8] at g1 g2 g3 hb
                    rw [hd12] at hb
                    obtain ⟨⟨u, n8, e8⟩, ho8⟩ : ∃ o, Esc.fourGo 4 (s.data.toList.drop (k + 8)) 0 0 = o := ⟨_, rfl⟩
                    rw [ho8] at g1 g2 g3 hb
                    dsimp only at g1 g2 g3 hb
                    subst g1 g2
                    obtain ⟨U, hU⟩ : ∃ U : Int, U = (u : Int) := ⟨_, rfl⟩
                    have HF8 := Lib.hid (fun W => four_of s (k + 8) (by omega) hs u 4 0 U hU ho8 W)
                    have hs8 := slice_from s (k + 8) ((k : Int) + 8) (by omega) (by omega)
                    have hU16 : U < 65536 := by omega
                    have hU0 : 0 ≤ U := by omega
                    rw [← hU, ← hV] at hb
                    obtain ⟨R, hR⟩ : ∃ R : ByteArray, R = ⟨(Esc.rune (65536 + (V - 55296) * 1024 + U - 56320)).toArray⟩ := ⟨_, rfl⟩
                    have HRn := Lib.hid (fun W => rune_any (65536 + (V - 55296) * 1024 + U - 56320) W)
                    rw [← hR] at HRn
                    have hRs : R.size ≤ 4 := by rw [hR, Mem.size_mk]; exact Esc.rune_length _
                    have HRR := Lib.hid hR
                    have HB := Lib.hid hb
                    clear hb hV hU hR g3 ho8
                    go_wp2_with (fail)
                    refine (HFo.out _).mono ?_
                    rintro e W1 ⟨rfl, rfl⟩
                    go_wp2_with (fail)
                    refine (HLo.out _).mono ?_
                    rintro e W1 ⟨rfl, rfl⟩
                    go_wp2_with (fail)
                    refine (HF8.out _).mono ?_
                    rintro e W1 ⟨rfl, rfl⟩
                    go_wp2_with (fail)
                    refine (HRn.out _).mono ?_
                    rintro e W1 ⟨rfl, b1⟩
                    go_wp2
                    go_roundw
                    case rel => exact ⟨k + 12, r4, acc ++ Esc.rune (65536 + (V - 55296) * 1024 + U - 56320), S ++ R, by go_num, by omega, rfl, by rw [HS.out, HRR.out, Mem.append_mk], hr4, by rw [ByteArray.size_append]; omega, HB.out.symm.trans (HB3.out.symm.trans HA2.out.symm), hbw.trans (b1.mono hbs)⟩
                    case measure => simp [intOf]; omega
              · have q1 : V < 55296 ∨ 57343 < V := by omega
                obtain ⟨R, hR⟩ : ∃ R : ByteArray, R = ⟨(Esc.rune V).toArray⟩ := ⟨_, rfl⟩
                have HRn := Lib.hid (fun W => rune_any V W)
                rw [← hR] at HRn
                have hRs : R.size ≤ 4 := by rw [hR, Mem.size_mk]; exact Esc.rune_length _
                rw [← hV] at hb
                have HRR := Lib.hid hR
                have HB := Lib.hid hb
                clear hb hV hR h1 h2 hv16
                rcases q1 with q1 | q1
                · as_aux_lemma =>
                    go_wp2_with (fail)
                    refine (HFo.out _).mono ?_
                    rintro e W1 ⟨rfl, rfl⟩
                    go_wp2_with (fail)
                    refine (HRn.out _).mono ?_
                    rintro e W1 ⟨rfl, b1⟩
                    go_wp2
                    go_roundw
                    case rel => exact ⟨k + 6, r3, acc ++ Esc.rune V, S ++ R, by go_num, by omega, rfl, by rw [HS.out, HRR.out, Mem.append_mk], hr3, by rw [ByteArray.size_append]; omega, HB.out.symm.trans HA2.out.symm, hbw.trans (b1.mono hbs)⟩
                    case measure => simp [intOf]; omega
                · as_aux_lemma =>
                    go_wp2_with (fail)
                    refine (HFo.out _).mono ?_
                    rintro e W1 ⟨rfl, rfl⟩
                    go_wp2_with (fail)
                    refine (HRn.out _).mono ?_
                    rintro e W1 ⟨rfl, b1⟩
                    go_wp2
                    go_roundw
                    case rel => exact ⟨k + 6, r3, acc ++ Esc.rune V, S ++ R, by go_num, by omega, rfl, by rw [HS.out, HRR.out, Mem.append_mk], hr3, by rw [ByteArray.size_append]; omega, HB.out.symm.trans HA2.out.symm, hbw.trans (b1.mono hbs)⟩
                    case measure => simp [intOf]; omega
          · as_aux_lemma =>
              have d117 : ((d.toNat : Int) == 117) = false := by rw [Int64.byte_eq d 117 117 rfl]; exact beq_eq_false_iff_ne.mpr g117
              have HB := Lib.hid (show (Esc.ans r (s.data.toList.drop k) acc).2.2 = 2 by rw [HD2.out]; exact back_wrong HF.out d g117 HSN.out _ _)
              clear g117
              go_wp2
              refine bodyPost_ret (results_tmp4 rfl _ _ _) rfl ⟨?_, hbw⟩
              exact InOut.bad HE.out HB.out (by decide)
        · as_aux_lemma =>
            have HD1 := Lib.hid (Mem.drop_none s (k + 1) (by omega))
            have HB := Lib.hid (show Esc.ans r (s.data.toList.drop k) acc = (acc, false, 0) by rw [HD0.out, HD1.out]; exact back_end HF.out acc)
            have hl1' : ¬ ((k : Int) + 1 < s.size) := by omega
            go_wp2
            refine bodyPost_ret (results_tmp4 rfl _ _ _) rfl ⟨?_, hbw⟩
            exact InOut.good HE.out HB.out HS.out
      · have t92 : ((c.toNat : Int) == 92) = false := by rw [Int64.byte_eq c 92 92 rfl]; exact beq_eq_false_iff_ne.mpr c92
        obtain ⟨⟨n, lo, hi⟩, hn⟩ : ∃ o, Esc.lead c = o := ⟨_, rfl⟩
        have HL := Lib.hid (fun W => lead_out_of c n lo hi hn W)
        have HN := Lib.hid hn
        have HC3 := Lib.hid c92
        clear hn c92
        by_cases hn0 : n = 0
        · as_aux_lemma =>
            have HB := Lib.hid (show (Esc.ans r (s.data.toList.drop k) acc).2.2 = 9 by
              rw [HD.out]
              have hz : (Esc.lead c).1 = 0 := by rw [HN.out]; exact hn0
              have h128 : 128 ≤ c.toNat := by
                rcases lead_cases c with ⟨g1, g2⟩ | ⟨g1, g2⟩ | ⟨g1, g2, _⟩
                · rw [g2] at hz; exact absurd hz (by decide)
                · exact g1
                · exact g1
              exact Esc.ans_bad _ _ _ _ _ (Esc.step_lead_bad HF.out c h128 hz) (by decide))
            subst hn0
            go_wp2_with (fail)
            refine (HL.out _).mono ?_
            rintro e W1 ⟨rfl, rfl⟩
            go_wp2
            refine bodyPost_ret (results_tmp4 rfl _ _ _) rfl ⟨?_, hbw⟩
            exact InOut.bad HE.out HB.out (by decide)
        have hn4 := lead_le HN.out
        have tn : ((n : Int) == 0) = false := beq_eq_false_iff_ne.mpr (by omega)
        have HN0 := Lib.hid hn0
        have hn1 : 0 < n := by omega
        clear hn0
        go_wp2_with (fail)
        refine (HL.out _).mono ?_
        rintro e W1 ⟨rfl, rfl⟩
        go_wp2
        go_loop [10, 26] (fun o i => ∃ (j : Nat) (r' : Esc.Rdr) (acc' : List UInt8) (S' : ByteArray), i = .int .i64 j ∧ j ≤ n ∧ k + j ≤ s.size ∧ o = .string S' ∧ S' = ⟨acc'.toArray⟩ ∧ S'.size ≤ 4 * k + j ∧
            Esc.ans r' (s.data.toList.drop (k + j)) acc' = Esc.ans Esc.Rdr.zero s.data.toList [] ∧ St n j lo hi r') (fun _ i => n - (intOf i).toNat)
        case atStart => exact ⟨0, r, acc, S, rfl, by omega, by omega, rfl, HS.out, by omega, HE.out, .inl ⟨rfl, HF.out⟩⟩
        case round =>
          obtain ⟨j, r', acc', S', rfl, hj, hkj, rfl, hS', hSs', heq', hst⟩ := hrel
          have HS' := Lib.hid hS'
          have HE' := Lib.hid heq'
          have HST := Lib.hid hst
          clear hS' heq' hst
          by_cases hjn : j < n
          · by_cases hin : k + j < s.size
            · obtain ⟨d, hd⟩ : ∃ d, s[k + j]'hin = d := ⟨_, rfl⟩
              have HD' := Lib.hid (show s.data.toList.drop (k + j) = d :: s.data.toList.drop (k + j + 1) by rw [Mem.drop_one s (k + j) hin, hd])
              have hsl := slice_at s (k + j) ((k : Int) + j) ((k : Int) + j + 1) (by omega) (by omega) hin d hd
              have hin' : (k : Int) + j < s.size := by omega
              by_cases hj0 : j = 0
              · as_aux_lemma =>
                  subst hj0
                  have hsl0 := slice_at s k (k : Int) ((k : Int) + 1) rfl rfl hlt c hc
                  clear hsl
                  have hdc : d = c := by rw [← hd, ← hc]; rfl
                  subst hdc
                  obtain ⟨r2, s2, a2⟩ := St.one HST.out.first d n lo hi HN.out HN0.out HC.out.1 HC.out.2 HC3.out (s.data.toList.drop (k + 0 + 1)) acc'
                  have HA := Lib.hid a2
                  clear a2
                  go_wp2
                  go_round
                  case rel => exact ⟨0 + 1, r2, acc' ++ [d], S' ++ ⟨#[d]⟩, by go_num, by omega, by omega, rfl, by rw [HS'.out, Mem.append_mk], by rw [size_snoc]; omega, by rw [← HE'.out, HD'.out]; exact HA.out.symm, s2⟩
                  case measure => simp [intOf]; omega
              have hj0' : 0 < (j : Int) := by omega
              have hop := HST.out.open' (by omega) hjn
              by_cases d34 : d = 34
              · as_aux_lemma =>
                  have HB := Lib.hid (show (Esc.ans r' (s.data.toList.drop (k + j)) acc').2.2 = 2 by rw [HD'.out]; exact Esc.ans_bad _ _ _ _ _ (Esc.step_open_ctl hop d (.inr d34)) (by decide))
                  have u34 : ((d.toNat : Int) == 34) = true := by rw [Int64.byte_eq d 34 34 rfl, d34]; rfl
                  clear d34 hop hsl
                  go_wp2
                  refine bodyPost_ret (results_tmp4 rfl _ _ _) rfl ⟨?_, hbw⟩
                  exact InOut.bad HE'.out HB.out (by decide)
              have u34 : ((d.toNat : Int) == 34) = false := by rw [Int64.byte_eq d 34 34 rfl]; exact beq_eq_false_iff_ne.mpr d34
              by_cases d32 : d.toNat < 32
              · as_aux_lemma =>
                  have HB := Lib.hid (show (Esc.ans r' (s.data.toList.drop (k + j)) acc').2.2 = 2 by rw [HD'.out]; exact Esc.ans_bad _ _ _ _ _ (Esc.step_open_ctl hop d (.inl d32)) (by decide))
                  have u32 : (d.toNat : Int) < 32 := by omega
                  clear d34 hop hsl d32
                  go_wp2
                  refine bodyPost_ret (results_tmp4 rfl _ _ _) rfl ⟨?_, hbw⟩
                  exact InOut.bad HE'.out HB.out (by decide)
              have u32 : (32 : Int) ≤ (d.toNat : Int) := by omega
              have HCt := Lib.hid (show ¬ (d.toNat < 32 ∨ d = 34) by rintro (h | h); exact d32 h; exact d34 h)
              clear d34 d32
              by_cases hj1 : j = 1
              · subst hj1
                rw [if_pos rfl, if_pos rfl] at hop
                have hlo := lead_lo HN.out hjn
                by_cases dlo : d.toNat < lo.toNat
                · as_aux_lemma =>
                    have HB := Lib.hid (show (Esc.ans r' (s.data.toList.drop (k + 1)) acc').2.2 = 9 by rw [HD'.out]; exact Esc.ans_bad _ _ _ _ _ (Esc.step_open_bad hop d HCt.out (.inl dlo)) (by decide))
                    have v1 : (d.toNat : Int) < (lo.toNat : Int) := by omega
                    clear hop hsl
                    go_wp2
                    refine bodyPost_ret (results_tmp4 rfl _ _ _) rfl ⟨?_, hbw⟩
                    exact InOut.bad HE'.out HB.out (by decide)
                by_cases dhi : hi.toNat < d.toNat
                · as_aux_lemma =>
                    have HB := Lib.hid (show (Esc.ans r' (s.data.toList.drop (k + 1)) acc').2.2 = 9 by rw [HD'.out]; exact Esc.ans_bad _ _ _ _ _ (Esc.step_open_bad hop d HCt.out (.inr dhi)) (by decide))
                    have v1 : (lo.toNat : Int) ≤ (d.toNat : Int) := by omega
                    have v2 : (hi.toNat : Int) < (d.toNat : Int) := by omega
                    clear hop hsl
                    go_wp2
                    refine bodyPost_ret (results_tmp4 rfl _ _ _) rfl ⟨?_, hbw⟩
                    exact InOut.bad HE'.out HB.out (by decide)
                · as_aux_lemma =>
                    have hsl1 := slice_at s (k + 1) ((k : Int) + 1) ((k : Int) + 1 + 1) (by omega) (by omega) hin d hd
                    have hsl2 := slice_at s (k + 1) ((k : Int) + 1) ((k : Int) + 2) (by omega) (by omega) hin d hd
                    clear hsl
                    obtain ⟨r2, o2, a2⟩ := inner_more hop d (by omega) (by omega) (by omega) (s.data.toList.drop (k + 1 + 1)) acc'
                    have HA := Lib.hid a2
                    have HO := Lib.hid o2
                    have v1 : (lo.toNat : Int) ≤ (d.toNat : Int) := by omega
                    have v2 : (d.toNat : Int) ≤ (hi.toNat : Int) := by omega
                    clear hop a2 o2
                    go_wp2
                    go_round
                    case rel => exact ⟨1 + 1, r2, acc' ++ [d], S' ++ ⟨#[d]⟩, by go_num, by omega, by omega, rfl, by rw [HS'.out, Mem.append_mk], by rw [size_snoc]; omega, by rw [← HE'.out, HD'.out]; exact HA.out.symm, St.next HO.out (by omega) hjn⟩
                    case measure => simp [intOf]; omega
              · rw [if_neg hj1, if_neg hj1] at hop
                have tj1 : ((j : Int) == 1) = false := beq_eq_false_iff_ne.mpr (by omega)
                have hj2 : 1 < (j : Int) := by omega
                by_cases dlo : d.toNat < 128
                · as_aux_lemma =>
                    have HB := Lib.hid (show (Esc.ans r' (s.data.toList.drop (k + j)) acc').2.2 = 9 by rw [HD'.out]; exact Esc.ans_bad _ _ _ _ _ (Esc.step_open_bad hop d HCt.out (.inl dlo)) (by decide))
                    have v1 : (d.toNat : Int) < 128 := by omega
                    clear hop hsl
                    go_wp2
                    refine bodyPost_ret (results_tmp4 rfl _ _ _) rfl ⟨?_, hbw⟩
                    exact InOut.bad HE'.out HB.out (by decide)
                by_cases dhi : 191 < d.toNat
                · as_aux_lemma =>
                    have HB := Lib.hid (show (Esc.ans r' (s.data.toList.drop (k + j)) acc').2.2 = 9 by rw [HD'.out]; exact Esc.ans_bad _ _ _ _ _ (Esc.step_open_bad hop d HCt.out (.inr dhi)) (by decide))
                    have v2 : 191 < (d.toNat : Int) := by omega
                    clear hop hsl
                    go_wp2
                    refine bodyPost_ret (results_tmp4 rfl _ _ _) rfl ⟨?_, hbw⟩
                    exact InOut.bad HE'.out HB.out (by decide)
                · as_aux_lemma =>
                    obtain ⟨r2, o2, a2⟩ := inner_more hop d (by omega) (by show 128 ≤ _; omega) (by show _ ≤ 191; omega) (s.data.toList.drop (k + j + 1)) acc'
                    have HA := Lib.hid a2
                    have HO := Lib.hid o2
                    have v1 : 128 ≤ (d.toNat : Int) := by omega
                    have v2 : (d.toNat : Int) ≤ 191 := by omega
                    clear hop a2 o2
                    go_wp2
                    go_round
                    case rel => exact ⟨j + 1, r2, acc' ++ [d], S' ++ ⟨#[d]⟩, by go_num, by omega, by omega, rfl, by rw [HS'.out, Mem.append_mk], by rw [size_snoc]; omega, by rw [← HE'.out, HD'.out]; exact HA.out.symm, St.next (by rw [show n - (j + 1) = n - j - 1 by omega]; exact HO.out) (by omega) hjn⟩
                    case measure => simp [intOf]; omega
            · as_aux_lemma =>
                have hj0 : 0 < j := by omega
                have hop := HST.out.open' hj0 hjn
                have HD' := Lib.hid (Mem.drop_none s (k + j) (by omega))
                have HB := Lib.hid (show Esc.ans r' (s.data.toList.drop (k + j)) acc' = (acc', false, 0) by rw [HD'.out]; exact Esc.ans_nil _ _ hop.not_whole)
                have hin' : ¬ ((k : Int) + j < s.size) := by omega
                clear hop
                go_wp2
                refine bodyPost_ret (results_tmp4 rfl _ _ _) rfl ⟨?_, hbw⟩
                exact InOut.good HE'.out HB.out HS'.out
          · as_aux_lemma =>
              obtain rfl : j = n := by omega
              go_wp2
              go_roundw
              case rel => exact ⟨k + j, r', acc', S', by go_num, by omega, rfl, HS'.out, HST.out.fresh, by omega, HE'.out, hbw⟩
              case measure => simp [intOf]; omega
    · obtain rfl : k = s.size := by omega
      have HD := Lib.hid (Mem.drop_none s s.size (Nat.le_refl _))
      have HA := Lib.hid (show Esc.ans r (s.data.toList.drop s.size) acc = (acc, true, 0) by rw [HD.out]; simp [Esc.ans, HF.out.whole])
      go_wp2
      refine bodyPost_ret (results_tmp4 rfl _ _ _) rfl ⟨?_, hbw⟩
      exact InOut.good HE.out HA.out HS.out
end Ref
end Go.Proofs.YtnpbleaikdpjiaaDoor
