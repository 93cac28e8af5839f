/- JsonoutPlain: the walk. -/
import Derived.Test.YtopaadmnlghdaaaDoorDocQ
import Derived.Test.YtopaadmnlghdaaaDoorDocA
import Derived.Test.YtopaadmnlghdaaaDoorDocO
namespace Go.Proofs.YtopaadmnlghdaaaDoor.jsonoutPlain
open Go.RowKit Json

def IsRow (k : IntKind) (w : World) (a : Option Addr) (len cap : Nat) (zs : List Int) : Prop :=
  (a = none ∧ len = 0 ∧ cap = 0 ∧ zs = []) ∨
  ∃ x, a = some x ∧ len ≤ cap ∧ cap ≤ maxLen ∧ zs.length = cap ∧ (∀ i, i < zs.length → w.cell? (x.add i) = some (.int k (zs.getD i 0))) ∧ ∀ n ∈ zs, (Lit.int k n).wf = true

theorem all_len : ∀ (es : List Evt) (w : Wr), (∀ e ∈ es, e.small) → (w.all text es).1.length ≤ 6011 * es.length
  | [], w, _ => Nat.zero_le _
  | e :: es, w, h => by
    unfold Wr.all
    split
    · exact Nat.zero_le _
    · rename_i p hp
      split
      · have h1 := w.step_len p (e.part_small p hp (h e (by simp)))
        have h2 := all_len es (w.step text p).2.2 (fun x hx => h x (by simp [hx]))
        simp only [List.length_append, List.length_cons]
        omega
      · exact Nat.zero_le _

/-- What is written out of a document. -/
theorem written (l : List Int) : ∃ S : ByteArray, Wr.zero.all text (doc l 8) = (S.data.toList, 0) ∧ Wr.zero.all text ((doc l 8).map Evt.opened) = (S.data.toList, 0) ∧ S.size ≤ 180330000 ∧ 0 < S.size ∧ ∀ j (h : j < S.size), 32 ≤ (S[j]'h).toNat := by
  have hg := doc_good l 8
  have h0 := hg.all rfl
  have h1 := hg.opened
  have h2 := hg.some (item_some l 8 0)
  have h3 := all_hi (doc l 8) Wr.zero
  have h4 := all_len (doc l 8) Wr.zero hg.small
  have h5 := doc_len l 8 (by omega)
  rw [h1]
  generalize hR : Wr.zero.all text (doc l 8) = R at h0 h2 h3 h4
  obtain ⟨r, f⟩ := R
  simp only at h0 h2 h3 h4
  subst h0
  refine ⟨⟨r.toArray⟩, rfl, rfl, ?_, ?_, ?_⟩
  · rw [Mem.size_mk]; omega
  · rw [Mem.size_mk]; exact List.length_pos_iff.2 h2
  · intro j h
    rw [Mem.size_mk] at h
    exact h3 r[j] (List.getElem_mem h)

set_option maxRecDepth 100000 in
set_option maxHeartbeats 4000000 in
theorem walk (a0 : Option Addr) (len0 cap0 : Nat) (z0 : List Int) (w : World) (w0 : IsRow .i64 w a0 len0 cap0 z0) (T : Tabs w) :
    Calls Tryd.prog 6 #[.slice a0 len0 cap0] w fun e w' => e = .returned (.bool true) ∧ Below w.heap.size w w' := by
  have HL := Lib.hid (fun u (t : Tabs u) => alive_any u t)
  have HT := Lib.hid T
  have HM := Lib.hid (nums_of_row w0).2
  generalize z0.take len0 = l at HM
  have hml : len0 ≤ maxLen := by
    rcases w0 with ⟨_, rfl, _, _⟩ | ⟨x, _, h1, h2, _⟩
    · omega
    · omega
  unfold maxLen at hml
  clear T w0
  by_cases hk : len0 ≤ 60
  · have hkI : (len0 : Int) ≤ 60 := by omega
    go_enter Tryd.func6, Tryd.ntmps6
    go_wp2_with (fail)
    refine (HL.out _ HT.out).mono ?_
    rintro e u1 ⟨rfl, b1⟩
    have B1 := Lib.hid b1
    have HD := Lib.hid (doc_any l 8 (by omega) (.slice a0 len0 cap0) u1 ((HM.out.below b1).mono b1.size))
    clear b1
    go_wp2_with (fail)
    refine HD.out.mono ?_
    rintro e u2 ⟨ov, rfl, hr, b2⟩
    have B2 := Lib.hid (B1.out.trans (b2.mono B1.out.size))
    obtain ⟨S, hS1, hS2, hSs, hS0, hSb⟩ := written l
    have hlen := doc_len l 8 (by omega)
    have hsm := (doc_good l 8).small
    generalize doc l 8 = D at hr hlen hS1 hS2 hsm
    have HA := Lib.hid (all_any D ov u2 hr hlen hsm (HT.out.below B2.out))
    have HR := Lib.hid hr
    rw [hS1] at HA
    simp only [Mem.mk_data] at HA
    have HOp := Lib.hid (fun u (b : Below u2.heap.size u2 u) => open_any D ov u (hr.below b) hlen)
    have HA2 := Lib.hid (fun u v (r : Reads u v (D.map Evt.opened)) (t : Tabs u) => by
      have := all_any (D.map Evt.opened) v u r (by rw [List.length_map]; exact hlen) (by
        intro e he
        obtain ⟨x, hx, rfl⟩ := List.mem_map.1 he
        exact x.opened_small (hsm x hx)) t
      rw [hS2] at this
      simp only [Mem.mk_data] at this
      exact this)
    have HSb := Lib.hid hSb
    obtain ⟨a, cc, rfl, _⟩ := hr
    generalize D.length = n at HR HA HOp ⊢
    clear b2 HD hsm hS1 hS2 hSb
    go_wp2_with (fail)
    refine HA.out.mono ?_
    rintro e u3 ⟨rfl, b3⟩
    have HO3 := Lib.hid (HOp.out u3 b3)
    have B3 := Lib.hid (B2.out.trans (b3.mono B2.out.size))
    clear b3
    go_wp2_with (fail)
    refine HO3.out.mono ?_
    rintro e u4 ⟨ov4, rfl, r4, b4⟩
    have B4 := Lib.hid (B3.out.trans (b4.mono B3.out.size))
    have HA4 := Lib.hid (HA2.out u4 ov4 r4 (HT.out.below B4.out))
    obtain ⟨a4, c4, rfl, _⟩ := r4
    generalize (D.map Evt.opened).length = n4 at HA4 ⊢
    clear b4
    go_wp2_with (fail)
    refine HA4.out.mono ?_
    rintro e u5 ⟨rfl, b5⟩
    have B5 := Lib.hid (B4.out.trans (b5.mono B4.out.size))
    clear b5
    have hne : S.toList.isEmpty = false := by
      rw [ByteArray.toList_eq, List.isEmpty_eq_false_iff]
      exact List.length_pos_iff.1 (by rw [Array.length_toList]; exact hS0)
    go_wp2_with (fail)
    go_loopw [8] (fun i wr => ∃ j : Nat, i = .int .i64 j ∧ j ≤ S.size ∧ Below w.heap.size w wr) (fun i _ => S.size - (intOf i).toNat)
    case atStart => exact ⟨0, rfl, Nat.zero_le _, B5.out⟩
    case round =>
      obtain ⟨j, rfl, hj, hb⟩ := hrel
      by_cases hjn : j < S.size
      · have hlt : (j : Int) < (S.size : Int) := by omega
        have h32 := HSb.out j hjn
        have h32I : ¬ (((S[j]'hjn).toNat : Int) < 32) := by omega
        go_wp2_with (fail)
        exact ⟨⟨j + 1, by go_num, by omega, hb⟩, by simp [intOf]; omega⟩
      · have hge : (S.size : Int) ≤ (j : Int) := by omega
        go_wp2_with (fail)
        go_ret
        exact ⟨rfl, hb⟩
  · have hkI : 60 < (len0 : Int) := by omega
    go_enter Tryd.func6, Tryd.ntmps6
    go_wp2_with (fail)
    refine (HL.out _ HT.out).mono ?_
    rintro e u1 ⟨rfl, b1⟩
    go_wp2
    go_ret
    exact ⟨rfl, b1⟩
end Go.Proofs.YtopaadmnlghdaaaDoor.jsonoutPlain
