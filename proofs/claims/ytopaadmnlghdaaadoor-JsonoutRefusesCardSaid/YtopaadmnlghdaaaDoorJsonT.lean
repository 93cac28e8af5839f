/- The reference's writer: Step, whatever the part. -/
import Derived.Test.YtopaadmnlghdaaaDoorJsonSa
import Derived.Test.YtopaadmnlghdaaaDoorJsonSb
import Derived.Test.YtopaadmnlghdaaaDoorJsonSc
import Derived.Test.YtopaadmnlghdaaaDoorJsonSd
namespace Go.Proofs.YtopaadmnlghdaaaDoor
open Go.RowKit
namespace Json

theorem rstep_any {W : Wr} {rb n : Nat} {h : Own.Heap} {w : World} (hi : RIs W rb h) (hw : Own.Has w h) (hf : W.Fits n) (hn : n ≤ 100000) (e : Evt) (hs : e.small) :
    Calls Tryd.prog 12 #[.pointer (some ⟨rb, 0, none⟩), e.val] w fun r w' => r = .returned (.tuple #[.string ⟨(W.take e).1.toArray⟩, .int .i64 ((W.take e).2.1 : Int)]) ∧
      ∃ h', RIs (W.take e).2.2 rb h' ∧ Own.Turn h h' w w' := by
  cases hp : e.part with
  | none =>
    have ht : W.take e = ([], 14, W) := by unfold Wr.take; rw [hp]
    rw [ht]
    refine (rstep_end hi hw e (.inl hp)).mono ?_
    rintro r w' ⟨rfl, t⟩
    exact ⟨rfl, h, hi, t⟩
  | some p =>
    have ht : W.take e = W.step text p := by unfold Wr.take; rw [hp]
    rw [ht]
    by_cases hd : W.done = true
    · rw [Wr.step_done text W p hd]
      refine (rstep_end hi hw e (.inr hd)).mono ?_
      rintro r w' ⟨rfl, t⟩
      exact ⟨rfl, h, hi, t⟩
    · have hd' : W.done = false := by simpa using hd
      by_cases hc : p.isClose = true
      · obtain rfl : p = .close := by cases p <;> first | rfl | cases hc
        exact rstep_close hi hw hf hn e hp hd'
      · have hc' : p.isClose = false := by simpa using hc
        rcases List.eq_nil_or_concat W.opened with h0 | ⟨L, c, h0⟩
        · by_cases hg : p.isBegin = true
          · cases p with
            | begins m cnt =>
              cases m with
              | true => exact rstep_nil_bt hi hw e hs _ hp hc' hd' h0 cnt rfl
              | false => exact rstep_nil_bf hi hw e hs _ hp hc' hd' h0 cnt rfl
            | _ => cases hg
          · exact rstep_nil_plain hi hw e hs _ hp hc' hd' h0 (by simpa using hg)
        · rw [List.concat_eq_append] at h0
          obtain ⟨y, k⟩ := c
          cases y with
          | false =>
            rcases Nat.eq_zero_or_pos k with hk | hk
            · subst hk
              by_cases hg : p.isBegin = true
              · cases p with
                | begins m cnt =>
                  cases m with
                  | true => exact rstep_F0_bt hi hw hf hn e hs _ hp hc' hd' L h0 cnt rfl
                  | false => exact rstep_F0_bf hi hw hf hn e hs _ hp hc' hd' L h0 cnt rfl
                | _ => cases hg
              · exact rstep_F0_plain hi hw hf hn e hs _ hp hc' hd' L h0 (by simpa using hg)
            · by_cases hg : p.isBegin = true
              · cases p with
                | begins m cnt =>
                  cases m with
                  | true => exact rstep_FP_bt hi hw hf hn e hs _ hp hc' hd' L k hk h0 cnt rfl
                  | false => exact rstep_FP_bf hi hw hf hn e hs _ hp hc' hd' L k hk h0 cnt rfl
                | _ => cases hg
              · exact rstep_FP_plain hi hw hf hn e hs _ hp hc' hd' L k hk h0 (by simpa using hg)
          | true =>
            rcases (show k % 2 = 0 ∨ k % 2 = 1 by omega) with hr | hr
            · cases hiw : p.isWord with
              | false => exact rstep_TB_any hi hw hf hn e hs _ hp hc' hd' L k hr h0 hiw
              | true =>
                have hg : p.isBegin = false := by cases p <;> first | rfl | cases hiw
                rcases Nat.eq_zero_or_pos k with hk | hk
                · subst hk
                  exact rstep_T0_plain hi hw hf hn e hs _ hp hc' hd' L h0 hiw hg
                · exact rstep_TP_plain hi hw hf hn e hs _ hp hc' hd' L k hk hr h0 hiw hg
            · by_cases hg : p.isBegin = true
              · cases p with
                | begins m cnt =>
                  cases m with
                  | true => exact rstep_TO_bt hi hw hf hn e hs _ hp hc' hd' L k hr h0 cnt rfl
                  | false => exact rstep_TO_bf hi hw hf hn e hs _ hp hc' hd' L k hr h0 cnt rfl
                | _ => cases hg
              · exact rstep_TO_plain hi hw hf hn e hs _ hp hc' hd' L k hr h0 (by simpa using hg)

/-- A reference's writer that was made behind the world w stands as W. -/
def RHeld (w : World) (rb : Nat) (W : Wr) (u : World) : Prop := ∃ h, RIs W rb h ∧ Own.Turn [] h w u

theorem RHeld.new {w v : World} {rb : Nat} (hk : v.heap.size = rb) (b : Below w.heap.size w v) : RHeld w rb Wr.zero (v.alloc (.cells #[.int .i64 1, .slice none 0 0, .bool false] 31)) :=
  ⟨_, RIs.zero rb, (Own.Turn.of_below (Own.Has.nil w) b).allocAt rb hk _⟩

theorem RHeld.below {w u : World} {rb : Nat} {W : Wr} (h : RHeld w rb W u) : Below w.heap.size w u := by
  obtain ⟨h, _, t⟩ := h
  exact t.below (fun x hx => by cases hx) (Nat.le_refl _)

theorem RHeld.stays {w u u' : World} {rb : Nat} {W : Wr} (h : RHeld w rb W u) (b : Below u.heap.size u u') : RHeld w rb W u' := by
  obtain ⟨h, i, t⟩ := h
  exact ⟨h, i, t.trans (Own.Turn.of_below t.has b)⟩

theorem RHeld.step {w u : World} {rb n : Nat} {W : Wr} (h : RHeld w rb W u) (hf : W.Fits n) (hn : n ≤ 100000) (e : Evt) (hs : e.small) :
    Calls Tryd.prog 12 #[.pointer (some ⟨rb, 0, none⟩), e.val] u fun r u' => r = .returned (.tuple #[.string ⟨(W.take e).1.toArray⟩, .int .i64 ((W.take e).2.1 : Int)]) ∧ RHeld w rb (W.take e).2.2 u' := by
  obtain ⟨h, i, t⟩ := h
  refine (rstep_any i t.has hf hn e hs).mono ?_
  rintro r u' ⟨rfl, h', i', t'⟩
  exact ⟨rfl, h', i', t.trans t'⟩

theorem RHeld.done {w u : World} {rb : Nat} {W : Wr} (h : RHeld w rb W u) : u.cell? ⟨rb, 2, none⟩ = some (.bool W.done) := by
  obtain ⟨h, ⟨l, lv, hl, _, rfl, _⟩, t⟩ := h
  exact t.has.cell rb _ _ (List.mem_cons_self ..) 2 _ rfl

theorem Wr.Fits.take {W : Wr} {n : Nat} (h : W.Fits n) (e : Evt) : (W.take e).2.2.Fits (n + 1) := by
  unfold Wr.take
  cases e.part with
  | none => exact h.mono (Nat.le_succ n)
  | some p => exact h.step text p

theorem Wr.take_tidy (W : Wr) (e : Evt) : W.take e.tidy = W.take e := by
  unfold Wr.take
  rw [e.tidy_part]

theorem Wr.take_len (W : Wr) (e : Evt) (hs : e.small) : (W.take e).1.length ≤ 6011 := by
  unfold Wr.take
  cases hp : e.part with
  | none => simp
  | some p => exact W.step_len p (e.part_small p hp hs)

/-- A part as it is handed to the writer: one that is none is 5. -/
def Evt.orFive (e : Evt) : Part := match e.part with | none => .other false | some p => p

theorem Wr.step_orFive (W : Wr) (e : Evt) : W.step text e.orFive = W.take e := by
  unfold Evt.orFive Wr.take
  cases e.part with
  | none => exact Wr.step_none text W _ rfl
  | some p => rfl

theorem Evt.orFive_small (e : Evt) (hs : e.small) : e.orFive.small := by
  unfold Evt.orFive
  cases hp : e.part with
  | none => trivial
  | some p => exact e.part_small p hp hs
end Json
end Go.Proofs.YtopaadmnlghdaaaDoor
