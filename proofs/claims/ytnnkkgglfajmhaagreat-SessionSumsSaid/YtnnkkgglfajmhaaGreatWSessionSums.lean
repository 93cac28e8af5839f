/- SessionSums: the walk. -/
import Derived.Test.YtnnkkgglfajmhaaGreatM45
import Derived.Test.YtnnkkgglfajmhaaGreatM47
set_option maxRecDepth 100000
set_option maxHeartbeats 8000000
namespace Go.Proofs.YtnnkkgglfajmhaaGreat.sessionSums
open Go.RowKit
open Ses Pip
theorem cat_size (l : List UInt8) (b : ByteArray) : ((⟨l.toArray⟩ : ByteArray) ++ b).size = l.length + b.size := by
 rw [ByteArray.size_append]; rfl
theorem cat_list (l : List UInt8) (b : ByteArray) : ((⟨l.toArray⟩ : ByteArray) ++ b).data.toList = l ++ b.data.toList := by simp
theorem size_list (b : ByteArray) : b.data.toList.length = b.size := Array.length_toList
theorem walk (T : Esc.Tabs) (s : Setup) (b : ByteArray) (n : Int) (_zb : b.size ≤ 140737488355327) (_wn : (Lit.int .i64 n).wf = true) (w : World) (hT : Esc.TabsAt T w) :
  Calls Tryz.prog 6 #[s.val, .string b, .int .i64 n] w fun e w' => e = .returned (.bool true) ∧ Below w.heap.size w w' := by
 have HTb := hhh (fun (u : World) (h : Below w.heap.size w u) => (hT.of (h.mono hT.size) : Esc.TabsAt T u))
 have BT := hhh (fun (u v : World) (b : Below w.heap.size w u) (b2 : Below u.heap.size u v) => (b.trans (b2.mono b.size) : Below w.heap.size w v))
 have B0 := hhh (fun o u (b : Below (w.alloc o).heap.size (w.alloc o) u) => (((Below.refl w.heap.size w).alloc (Nat.le_refl _) o).trans (b.mono (by rw [Json.size_alloc]; omega)) : Below w.heap.size w u))
 have HA := hhh (fun (u : World) (h : Esc.TabsAt T u) => alive23_any u h)
 have HTs := hhh hT
 clear hT _wn
 cases hr : right s with
 | false =>
  have HP := hhh (fun u => hput_none s hr u)
  clear hr
  obtain ⟨f, t, d, g, l⟩ := s
  unfold Setup.val at HP ⊢
  simp only at HP ⊢
  go_enter Tryz.func6, Tryz.ntmps6
  go_wp2_with (fail)
  refine (HP.out _).mono ?_
  rintro e W1 ⟨rfl, b1⟩
  have B1 := hhh (B0.out _ _ b1)
  clear b1
  go_wp2_with (fail)
  refine (HA.out _ (HTb.out _ B1.out)).mono ?_
  rintro e W2 ⟨rfl, b2⟩
  have B2 := hhh (BT.out _ _ B1.out b2)
  clear b2
  go_wp2
  go_ret
  exact ⟨rfl, B2.out⟩
 | true =>
  have HP := hhh (fun u => hput_any s hr u)
  obtain ⟨PB, hPB⟩ : ∃ PB : ByteArray, PB = ⟨(helloBytes s).toArray⟩ := ⟨_, rfl⟩
  rw [← hPB] at HP
  obtain ⟨X, hX⟩ : ∃ X, PB ++ b = X := ⟨_, rfl⟩
  have hXs : X.size = 8 + b.size := by rw [← hX, hPB, cat_size]; rfl
  have hPBs : PB.size = 8 := by rw [hPB]; rfl
  clear hr hPB
  rcases (show 50 < b.size ∨ (b.size ≤ 50 ∧ n < 0) ∨ (b.size ≤ 50 ∧ 0 ≤ n ∧ 100 < n) ∨ (b.size ≤ 50 ∧ 0 ≤ n ∧ n ≤ 100) by omega) with hb | ⟨hb, h1⟩ | ⟨hb, h1, h2⟩ | ⟨hb, h1, h2⟩
  case inr.inr.inr =>
   obtain ⟨N, rfl⟩ : ∃ N : Nat, n = (N : Int) := ⟨n.toNat, by omega⟩
   obtain ⟨f, t, d, g, l⟩ := s
   unfold Setup.val at HP ⊢
   simp only at HP ⊢
   have hX58 : (X.size : Int) ≤ 58 := by omega
   have hX8 : 8 ≤ X.size := by omega
   have hext : X.extract 0 X.size = X := by
    apply ByteArray.ext; apply Array.toList_inj.1; rw [(extract_all X X.size (Nat.le_refl _)).2]; exact List.take_of_length_le (Nat.le_of_eq (size_list X))
   have hmin : min (X.size : Int) 64 = (X.size : Int) := by omega
   have hXl := hhh (size_list X)
   clear hXs
   go_enter Tryz.func6, Tryz.ntmps6
   go_wp2_with (fail)
   refine (HP.out _).mono ?_
   rintro e W1 ⟨rfl, b1⟩
   have B1 := hhh (B0.out _ _ b1)
   clear b1
   go_wp2_with (fail)
   refine (HA.out _ (HTb.out _ B1.out)).mono ?_
   rintro e W2 ⟨rfl, b2⟩
   have B2 := hhh (BT.out _ _ B1.out b2)
   clear b2
   go_wp2_with (fail)
   refine (Ses.new_any _).mono ?_
   rintro e W3 ⟨sb, h0, rfl, i0, t0⟩
   have H0 := hhh (And.intro i0 t0)
   clear i0 t0
   have HF := feed_any H0.out.1 H0.out.2.has X (by omega) 64
   rw [show (St.new.takes X.data.toList 64 : Nat) = X.size by rw [show St.new = fresh [] from rfl, fresh_takes, hXl.out]; simp only [List.length_nil]; omega, show St.new.feed X.data.toList 64 = fresh X.data.toList by rw [show St.new = fresh [] from rfl, fresh_feed, fresh_takes, hXl.out, List.nil_append, List.take_of_length_le (by rw [hXl.out]; simp only [List.length_nil]; omega)]] at HF
   have HF := hhh HF
   have HG := hhh (fresh_good T X.data.toList (by rw [hXl.out]; omega))
   go_wp2_with (fail)
   refine HF.out.mono ?_
   rintro e W4 ⟨rfl, h4, i4, t4⟩
   have H4 := hhh (And.intro i4 (H0.out.2.trans t4))
   clear i4 t4 HF
   have HC4 := Ses.charge_any H4.out.1 H4.out.2.has HG.out (by omega)
   rw [show ((fresh X.data.toList).charge : Int) = (X.size : Int) + 2 by rw [fresh_charge, hXl.out]; omega] at HC4
   have HC4 := hhh HC4
   go_wp2_with (fail)
   refine HC4.out.mono ?_
   rintro e W5 ⟨rfl, m5, rfl⟩
   have bel := fun {h : Own.Heap} {u : World} (t : Own.Turn [] h W2 u) => BT.out _ _ B2.out (t.below (B := W2.heap.size) (fun x hx => by cases hx) (Nat.le_refl _))
   have Bel := @hhh _ @bel
   have hbl := fun {h : Own.Heap} {u : World} (t : Own.Turn [] h W2 u) => t.least (B := Esc.tabsEnd) (fun x hx => by cases hx) (HTb.out _ B2.out).size
   have Hbl := @hhh _ @hbl
   clear bel hbl
   have HRn := run_nil H4.out.1 (H4.out.2.has.drewN m5) HG.out (by omega) (Hbl.out H4.out.2) (HTb.out _ (Bel.out (H4.out.2.drewN m5)))
   obtain ⟨S, hS⟩ : ∃ S, S = (fresh X.data.toList).run (textT T) none 16 := ⟨_, rfl⟩
   have HS := hhh (show S.1.Good T 16 by rw [hS]; exact run_good none 16 0 _ HG.out (by omega))
   rw [← hS] at HRn
   clear hS
   go_wp2_with (fail)
   refine HRn.mono ?_
   rintro e W6 ⟨rfl, h6, i6, t6⟩
   have H6 := hhh (And.intro i6 ((H4.out.2.drewN m5).trans t6))
   clear i6 t6 HRn HC4
   obtain ⟨R, hR⟩ : ∃ R, R = S.1 := ⟨_, rfl⟩
   rw [← hR] at H6 HS
   clear hR
   obtain ⟨Q, hQ⟩ : ∃ Q : Int, Q = (R.charge : Int) := ⟨_, rfl⟩
   have hQle := charge_le HS.out
   have hQ1 : Q ≤ 50000000000 := by omega
   have hQ0 : 0 ≤ Q := by omega
   have HC6 := Ses.charge_any H6.out.1 H6.out.2.has HS.out (by omega)
   rw [← hQ] at HC6
   have HWr := fun m => Ses.write_any H6.out.1 (H6.out.2.has.drewN m) N (by omega) (by have := HS.out.out; omega)
   obtain ⟨OB, hOB⟩ : ∃ OB : ByteArray, OB = ⟨(R.out.take N).toArray⟩ := ⟨_, rfl⟩
   have hOBs : OB.size = (R.out.take N).length := by rw [hOB]; rfl
   have hOBn : (OB.size : Int) ≤ (N : Int) := by rw [hOBs, List.length_take]; omega
   simp only [← hOB] at HWr
   have HWr := hhh HWr
   have hleft : ((R.write (N : Int)).charge : Int) = Q - (OB.size : Int) := by
    have := write_charge R N
    omega
   have hcl := fun h => closed_charge (HS.out.write (N : Int)) h
   have HLeft := hhh (And.intro hleft (And.intro hcl (HS.out.write (N : Int))))
   clear hQ hQle hOB hOBs hleft hcl
   go_wp2_with (fail)
   refine HC6.mono ?_
   rintro e W7 ⟨rfl, m7, rfl⟩
   go_wp2_with (fail)
   refine (HWr.out m7).mono ?_
   rintro e W8 ⟨rfl, h8, i8, t8⟩
   have H8 := hhh (And.intro i8 ((H6.out.2.drewN m7).trans t8))
   clear i8 t8 HC6 HWr
   have HCl := closed_any H8.out.1 H8.out.2.has
   have HC8 := Ses.charge_any H8.out.1 H8.out.2.has HLeft.out.2.2 (by omega)
   cases hc : (R.write (N : Int)).closed with
   | true =>
    rw [hc] at HCl
    rw [HLeft.out.2.1 hc] at HC8
    clear hc
    go_wp2_with (fail)
    refine HCl.mono ?_
    rintro e W9 ⟨rfl, rfl⟩
    go_wp2_with (fail)
    refine HC8.mono ?_
    rintro e W10 ⟨rfl, m10, rfl⟩
    go_wp2
    go_ret
    exact ⟨rfl, Bel.out (H8.out.2.drewN m10)⟩
   | false =>
    rw [hc] at HCl
    rw [HLeft.out.1] at HC8
    clear hc
    go_wp2_with (fail)
    refine HCl.mono ?_
    rintro e W9 ⟨rfl, rfl⟩
    go_wp2_with (fail)
    refine HC8.mono ?_
    rintro e W10 ⟨rfl, m10, rfl⟩
    go_wp2
    go_ret
    exact ⟨rfl, Bel.out (H8.out.2.drewN m10)⟩
  all_goals
   obtain ⟨f, t, d, g, l⟩ := s
   unfold Setup.val at HP ⊢
   simp only at HP ⊢
   clear hX hXs
   go_enter Tryz.func6, Tryz.ntmps6
   go_wp2_with (fail)
   refine (HP.out _).mono ?_
   rintro e W1 ⟨rfl, b1⟩
   have B1 := hhh (B0.out _ _ b1)
   clear b1
   go_wp2_with (fail)
   refine (HA.out _ (HTb.out _ B1.out)).mono ?_
   rintro e W2 ⟨rfl, b2⟩
   have B2 := hhh (BT.out _ _ B1.out b2)
   clear b2
   go_wp2
   go_ret
   exact ⟨rfl, B2.out⟩
end Go.Proofs.YtnnkkgglfajmhaaGreat.sessionSums
