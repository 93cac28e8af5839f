/- JsonoutEnds: the walk. -/
import Derived.Test.YtopaadmnlghdaaaDoorDocQ
import Derived.Test.YtopaadmnlghdaaaDoorDocA
namespace Go.Proofs.YtopaadmnlghdaaaDoor.jsonoutEnds
open Go.RowKit Json

def IsRow (k : IntKind) (w : World) (a : Option Addr) (len cap : Nat) (zs : List Int) : Prop :=
  (a = none ∧ len = 0 ∧ cap = 0 ∧ zs = []) ∨
  ∃ x, a = some x ∧ len ≤ cap ∧ cap ≤ maxLen ∧ zs.length = cap ∧ (∀ i, i < zs.length → w.cell? (x.add i) = some (.int k (zs.getD i 0))) ∧ ∀ n ∈ zs, (Lit.int k n).wf = true

set_option maxRecDepth 100000 in
set_option maxHeartbeats 4000000 in
theorem walk (a0 : Option Addr) (len0 cap0 : Nat) (z0 : List Int) (a1 : Evt) (w : World) (w0 : IsRow .i64 w a0 len0 cap0 z0) (w1 : a1.Fine) (T : Tabs w) :
    Calls Tryd.prog 5 #[.slice a0 len0 cap0, a1.val] w fun e w' => e = .returned (.bool true) ∧ Below w.heap.size w w' := by
  have HL := Lib.hid (fun u (t : Tabs u) => alive_any u t)
  have HT := Lib.hid T
  have HB := Lib.hid (fun o => (Below.refl w.heap.size w).alloc (Nat.le_refl _) o)
  have HC := Lib.hid (fun u => of_any a1 u)
  have HO := Lib.hid (fun e u => of_any e u)
  have HM := Lib.hid (nums_of_row w0).2
  generalize z0.take len0 = l at HM
  have HP := Lib.hid (fun p (h : a1.part = some p) (hs : a1.text.size ≤ 1000) => a1.part_small p h (w1.small hs))
  have hml : len0 ≤ maxLen := by
    rcases w0 with ⟨_, rfl, _, _⟩ | ⟨x, _, h1, h2, _⟩
    · omega
    · omega
  unfold maxLen at hml
  obtain ⟨P, hP⟩ : ∃ P, P = a1.part := ⟨_, rfl⟩
  rw [← hP] at HC HP
  obtain ⟨k, y, m, t, c⟩ := a1
  clear T w0 w1 hP
  simp only [Evt.val, Evt.cells] at HC HP ⊢
  have FB := Lib.hid (fun (u : World) (b : Below (w.alloc (.cells #[.int .i64 k, .bool y, .int .u64 (m : Int), .string t, .int .i64 c] 34)).heap.size (w.alloc (.cells #[.int .i64 k, .bool y, .int .u64 (m : Int), .string t, .int .i64 c] 34)) u) =>
    And.intro (boxed b 0 _ rfl) (And.intro (boxed b 1 _ rfl) (And.intro (boxed b 2 _ rfl) (And.intro (boxed b 3 _ rfl) (boxed b 4 _ rfl)))))
  have BW := Lib.hid (fun (u : World) (o : Obj) (b : Below (w.alloc o).heap.size (w.alloc o) u) => ((HB.out o).trans (b.mono (by rw [size_alloc]; omega)) : Below w.heap.size w u))
  have T1 := Lib.hid (HT.out.below (HB.out (.cells #[.int .i64 k, .bool y, .int .u64 (m : Int), .string t, .int .i64 c] 34)))
  by_cases hk : len0 ≤ 50
  · have hkI : (len0 : Int) ≤ 50 := by omega
    by_cases ht : t.size ≤ 100
    · have hts := Lib.hid (show t.size ≤ 1000 by omega)
      go_enter Tryd.func5, Tryd.ntmps5
      go_wp2_with (fail)
      refine (HL.out _ T1.out).mono ?_
      rintro e u1 ⟨rfl, b1⟩
      have B1 := Lib.hid b1
      have HD := Lib.hid (doc_any l 6 (by omega) (.slice a0 len0 cap0) u1 ((HM.out.below (BW.out _ _ b1)).mono (BW.out _ _ b1).size))
      clear b1
      go_wp2_with (fail)
      refine HD.out.mono ?_
      rintro e u2 ⟨ov, rfl, hr, b2⟩
      have B2 := Lib.hid (B1.out.trans (b2.mono B1.out.size))
      have HR := Lib.hid hr
      obtain ⟨a, cc, rfl, _⟩ := hr
      have hlen := doc_len l 6 (by omega)
      have HG := Lib.hid (doc_good l 6)
      generalize doc l 6 = D at HR hlen HG ⊢
      obtain ⟨n, hne⟩ : ∃ n, n = D.length := ⟨_, rfl⟩
      rw [← hne] at hlen HR ⊢
      have HN := Lib.hid hne
      have TU := Lib.hid (T1.out.below (B2.out.mono (Nat.le_refl _)))
      have H0 := Lib.hid (Held.new rfl (Below.refl u2.heap.size u2))
      clear b2 hne HD
      go_wp2_with (fail)
      go_loopw [36] (fun i wr => ∃ (j : Nat) (W : Wr), i = .int .i64 j ∧ j ≤ n ∧ W.Fits j ∧ Json.Good W (D.drop j) ⟨[], true⟩ ∧ Held u2 u2.heap.size W wr) (fun i _ => n - (intOf i).toNat)
      case atStart => exact ⟨0, Wr.zero, rfl, Nat.zero_le _, .zero, HG.out, H0.out⟩
      case round =>
        obtain ⟨j, W, rfl, hj, hf, hg, hh⟩ := hrel
        have Hf := Lib.hid hf
        have Hg := Lib.hid hg
        have Hh := Lib.hid hh
        have hdn := hh.done
        clear hf hg hh
        by_cases hjn : j < n
        · have hje : j < D.length := by have := HN.out; omega
          have hlt : (j : Int) < (n : Int) := by omega
          obtain ⟨b, off, rfl, x0, x1, x2, x3, x4⟩ := (HR.out.below Hh.out.below).at_ j hje
          obtain ⟨p, hd, hp, hps, h0, hg2⟩ := good_at Hg.out (List.drop_eq_getElem_cons hje)
          rw [hd] at hdn
          generalize D[j] = e at x0 x1 x2 x3 x4 hp
          have Hp := Lib.hid hp
          have Hps := Lib.hid hps
          have Hg2 := Lib.hid hg2
          have Hfs := Lib.hid (Hf.out.step text p)
          have HDn := Lib.hid hdn
          clear hp hps hd hg2 hdn
          go_wp2_with (fail)
          refine HDn.out.mono ?_
          rintro r u3 ⟨rfl, rfl⟩
          go_wp2_with (fail)
          refine (HO.out e _).mono ?_
          rw [Hp.out]
          rintro r u4 ⟨rfl, b4⟩
          have S4 := Lib.hid (Hh.out.stays b4)
          have hst := Lib.hid (S4.out.step TU.out Hf.out (show j ≤ 100000 by omega) p Hps.out)
          clear x0 x1 x2 x3 x4 b4
          generalize W.step text p = K at hst Hg2 Hfs h0
          obtain ⟨s1, s2, W2⟩ := K
          simp only at hst Hg2 Hfs h0
          subst h0
          generalize (⟨s1.toArray⟩ : ByteArray) = S1 at hst
          dsimp only [ofVal]
          go_wp2_with (fail)
          refine hst.out.mono ?_
          rintro r u5 ⟨rfl, g5⟩
          have G5 := Lib.hid g5
          clear g5
          go_wp2_with (fail)
          go_roundw
          case rel => exact ⟨j + 1, W2, by go_num, by omega, Hfs.out, Hg2.out, G5.out⟩
          case measure => simp [intOf]; omega
        · have hjn2 : j = n := by omega
          have hge : (n : Int) ≤ (j : Int) := by omega
          have hw := good_end Hg.out (by rw [List.drop_eq_nil_iff]; have := HN.out; omega)
          subst hw
          have B3 := Lib.hid (B2.out.trans (Hh.out.below.mono B2.out.size))
          obtain ⟨c0, c1, c2, c3, c4⟩ := FB.out _ B3.out
          clear hjn2 hdn
          go_wp2_with (fail)
          refine (HC.out _).mono ?_
          rintro r u6 ⟨rfl, b6⟩
          have S6 := Lib.hid (Hh.out.stays b6)
          clear c0 c1 c2 c3 c4 b6
          have HF := Lib.hid (fun u (h : Held u2 u2.heap.size ⟨[], true⟩ u) => BW.out _ _ (B2.out.trans (h.below.mono B2.out.size)))
          cases P with
          | none =>
            dsimp only [ofVal]
            go_wp2_with (fail)
            refine S6.out.done.mono ?_
            rintro r u7 ⟨rfl, rfl⟩
            go_wp2_with (fail)
            go_ret
            exact ⟨rfl, HF.out _ S6.out⟩
          | some p =>
            have hst := Lib.hid (S6.out.step TU.out Hf.out (show j ≤ 100000 by omega) p (HP.out p rfl hts.out))
            rw [Wr.step_done text _ p rfl] at hst
            dsimp only [ofVal]
            go_wp2_with (fail)
            refine hst.out.mono ?_
            rintro r u7 ⟨rfl, g7⟩
            have G7 := Lib.hid g7
            have hd7 := Lib.hid g7.done
            clear g7
            go_wp2_with (fail)
            refine hd7.out.mono ?_
            rintro r u8 ⟨rfl, rfl⟩
            go_wp2_with (fail)
            go_ret
            exact ⟨rfl, HF.out _ G7.out⟩
    · go_enter Tryd.func5, Tryd.ntmps5
      go_wp2_with (fail)
      refine (HL.out _ T1.out).mono ?_
      rintro e u1 ⟨rfl, b1⟩
      go_wp2
      go_ret
      exact ⟨rfl, BW.out _ _ b1⟩
  · have hkI : 50 < (len0 : Int) := by omega
    go_enter Tryd.func5, Tryd.ntmps5
    go_wp2_with (fail)
    refine (HL.out _ T1.out).mono ?_
    rintro e u1 ⟨rfl, b1⟩
    go_wp2
    go_ret
    exact ⟨rfl, BW.out _ _ b1⟩
end Go.Proofs.YtopaadmnlghdaaaDoor.jsonoutEnds
