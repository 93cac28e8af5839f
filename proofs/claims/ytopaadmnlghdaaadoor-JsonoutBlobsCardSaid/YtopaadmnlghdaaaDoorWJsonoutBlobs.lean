/- JsonoutBlobs: the walk. -/
import Derived.Test.YtopaadmnlghdaaaDoorJsonB
import Derived.Test.YtopaadmnlghdaaaDoorRefUnbase
import Derived.Test.YtopaadmnlghdaaaDoorPlainB
namespace Go.Proofs.YtopaadmnlghdaaaDoor.jsonoutBlobs
open Go.RowKit Json

def evs (b : ByteArray) : List Evt := [⟨4, false, 0, b, 0⟩]

theorem evs_plain (b : ByteArray) : Wr.zero.all text (evs b) = (34 :: (Base.put b.data.toList ++ [34]), 0) := by
  rw [evs, Wr.all_good _ _ _ _ (.blob b) rfl rfl, Wr.all_nil]
  show ((text (.blob b) ++ [], _) : List UInt8 × Nat) = _
  rw [List.append_nil]
  rfl

set_option maxHeartbeats 2000000 in
theorem walk (a0 : ByteArray) (_w0 : a0.size ≤ maxLen) (w : World) (T : Tabs w) :
    Calls Tryd.prog 7 #[.string a0] w fun e w' => e = .returned (.bool true) ∧ Below w.heap.size w w' := by
  have HL := Lib.hid (fun u (t : Tabs u) => alive_any u t)
  have HT := Lib.hid T
  by_cases hs : a0.size ≤ 200
  · have HA := Lib.hid (fun u c (hc : c.toList = (evs a0).flatMap Evt.cells) (t : Tabs u) => all_any (evs a0) (.slice (some ⟨u.heap.size, 0, none⟩) 1 1) (u.alloc (.cells c 34)) (Reads.new u (evs a0) c hc 1 rfl) (show 1 ≤ 1000 by omega)
      (fun e he => by rw [List.mem_singleton.1 he]; exact ⟨show 0 < 18446744073709551616 by omega, by show a0.size ≤ 1000; omega⟩) (t.below ((Below.refl u.heap.size u).alloc (Nat.le_refl _) _)))
    rw [evs_plain] at HA
    simp only at HA
    obtain ⟨Q, hQ⟩ : ∃ Q : ByteArray, Q = ⟨(34 :: (Base.put a0.data.toList ++ [34])).toArray⟩ := ⟨_, rfl⟩
    rw [← hQ] at HA
    have hpl := Base.put_length a0.data.toList
    have hsz : a0.data.toList.length = a0.size := Array.length_toList
    have hQs : Q.size = (Base.put a0.data.toList).length + 2 := by rw [hQ]; show (34 :: (Base.put a0.data.toList ++ [34])).toArray.size = _; simp
    obtain ⟨m, hm⟩ : ∃ m, m = (Base.put a0.data.toList).length := ⟨_, rfl⟩
    rw [← hm] at hQs hpl
    have hm2 : m ≤ 1000 := by omega
    obtain ⟨P, hP⟩ : ∃ P : ByteArray, P = ⟨(Base.put a0.data.toList).toArray⟩ := ⟨_, rfl⟩
    have hPs : P.size ≤ 1000 := by rw [hP]; show (Base.put a0.data.toList).toArray.size ≤ _; simp only [List.size_toArray]; omega
    have hq0 : ∀ h : 0 < Q.size, Q[0]'h = 34 := by subst hQ; intro h; rfl
    have hqm : ∀ h : m + 1 < Q.size, Q[m + 1]'h = 34 := by
      subst hQ
      intro h
      show (34 :: (Base.put a0.data.toList ++ [34])).toArray[m + 1] = 34
      simp [hm]
    have hex := Lib.hid (show Q.extract 1 (m + 1) = P by
      rw [hQ, hP, hm]
      apply ByteArray.ext
      apply Array.toList_inj.1
      simp)
    have HU := Lib.hid (fun u => RefUnbase.any P u (by omega))
    rw [show P.data.toList = Base.put a0.data.toList by rw [hP], Base.get_put] at HU
    clear hP
    have HQ := Lib.hid hQ
    have HM := Lib.hid hm
    have HB := Lib.hid (fun o (u : World) => (Below.refl u.heap.size u).alloc (Nat.le_refl _) o)
    clear hQ hm hsz hpl T
    go_enter Tryd.func7, Tryd.ntmps7
    go_wp2_with (fail)
    refine (HL.out _ HT.out).mono ?_
    rintro e W1 ⟨rfl, b1⟩
    have T1 := Lib.hid (HT.out.below b1)
    go_wp2_with (fail)
    refine (HA.out W1 _ rfl T1.out).mono ?_
    rintro e W2 ⟨rfl, b2⟩
    dsimp only
    go_wp2_with (fail)
    rw [hex.out]
    refine (HU.out _).mono ?_
    rintro e W3 ⟨he, b3⟩
    rw [RefUnbase.ans, Mem.mk_data] at he
    subst he
    go_wp2
    go_ret
    refine ⟨?_, ?_⟩
    · simp
    · have b2' := (HB.out _ W1).trans (b2.mono (by rw [size_alloc]; omega))
      exact (b1.trans (b2'.mono b1.size)).trans (b3.mono (Nat.le_trans b1.size b2'.size))
  · clear T
    go_enter Tryd.func7, Tryd.ntmps7
    go_wp2_with (fail)
    refine (HL.out _ HT.out).mono ?_
    rintro e W1 ⟨rfl, b1⟩
    go_wp2
    go_ret
    exact ⟨rfl, b1⟩
end Go.Proofs.YtopaadmnlghdaaaDoor.jsonoutBlobs
