/- Texts of the walk, joined. -/
import Derived.Test.YthnbpnfaghjamaaGreatK02
import Derived.Test.YthnbpnfaghjamaaGreatK10
/- All parts as JSON, in plain Lean, whatever the texts of parts are; the memory of a writer. (Written by wip/gen_tx.py out of JsonP.) -/
namespace Go.Proofs.YthnbpnfaghjamaaGreat
open Go.RowKit
namespace Json
structure Txt (ok : Part → Prop) (text : Part → List UInt8) (B : Nat) (Tb : World → Prop) : Prop where
 len : ∀ p, ok p → (text p).length ≤ 6010
 any : ∀ p, ok p → ∀ u, Tb u → Calls Tryz.prog 159 #[p.val] u fun r w' => r = .returned (.string ⟨(text p).toArray⟩) ∧ Below u.heap.size u w'
 of : ∀ u v, Tb u → Below B u v → Tb v
def Wr.all (text : Part → List UInt8) : Wr → List Evt → List UInt8 × Nat
 | w, [] => ([], if w.done then 0 else 3)
 | w, e :: l =>
  match e.part with
  | none => ([], 1)
  | some p => if (w.step text p).2.1 = 0 then ((w.step text p).1 ++ (Wr.all text (w.step text p).2.2 l).1, (Wr.all text (w.step text p).2.2 l).2) else ([], (w.step text p).2.1)
structure Wr.Fits (w : Wr) (n : Nat) : Prop where
 deep : w.opened.length ≤ n
 parts : ∀ c ∈ w.opened, c.parts ≤ n
theorem Wr.Fits.zero : Wr.zero.Fits 0 := ⟨Nat.le_refl _, fun c h => by cases h⟩
theorem Wr.Fits.mono {w : Wr} {n m : Nat} (h : w.Fits n) (k : n ≤ m) : w.Fits m := ⟨Nat.le_trans h.deep k, fun c hc => Nat.le_trans (h.parts c hc) k⟩
theorem Wr.Fits.step {w : Wr} {n : Nat} (h : w.Fits n) (text : Part → List UInt8) (p : Part) : (w.step text p).2.2.Fits (n + 1) := by
 have h' := h.mono (Nat.le_succ n)
 have hd : ∀ x ∈ w.opened.dropLast, x.parts ≤ n + 1 := fun x hx => h'.parts x ((List.dropLast_sublist _).subset hx)
 have hlen : w.opened.dropLast.length ≤ n := by have := h.deep; simp; omega
 unfold Wr.step
 split
 ·exact h'
 ·cases p with
  | close =>
   dsimp only
   split
   ·exact h'
   ·split
    ·exact h'
    ·exact ⟨by show w.opened.dropLast.length ≤ _; omega, hd⟩
  | _ =>
   dsimp only
   split
   ·first
    | exact ⟨Nat.zero_le _, fun c hc => by cases hc⟩
    | exact ⟨by simp, fun c hc => by rw [List.mem_singleton.1 hc]; exact Nat.zero_le _⟩
   ·rename_i c hc
    have hm : c ∈ w.opened := List.mem_of_getLast? hc
    have hcn := h.parts c hm
    have hpos : 0 < w.opened.length := List.length_pos_of_mem hm
    have hd1 := h.deep
    split
    ·exact h'
    ·refine ⟨by simp; omega, fun x hx => ?_⟩
     simp only [List.mem_append, List.mem_singleton] at hx
     rcases hx with hx | hx
     all_goals first
      | exact hd x hx
      | (subst hx; show c.parts + 1 ≤ _; omega)
      | skip
     all_goals first
      | (rcases hx with hx | hx <;> first | exact hd x hx | (subst hx; show c.parts + 1 ≤ _; omega))
      | (subst hx; exact Nat.zero_le _)
theorem ahead_len (c : Box) : c.ahead.length ≤ 1 := by
 unfold Box.ahead
 split
 ·simp
 ·split <;> simp
theorem Wr.step_len {ok : Part → Prop} {text : Part → List UInt8} {B : Nat} {Tb : World → Prop} (TX : Txt ok text B Tb) (w : Wr) (p : Part) (hp : ok p) : (w.step text p).1.length ≤ 6011 := by
 have ht := TX.len p hp
 unfold Wr.step
 split
 ·simp
 ·cases p with
  | close =>
   dsimp only
   split
   ·simp
   ·split <;> simp
  | _ =>
   dsimp only
   split
   ·first | (simp; done) | (dsimp only; omega)
   ·rename_i c hc
    have := ahead_len c
    split
    ·simp
    ·first | (simp only [List.length_append]; omega) | (simp only [List.length_append, List.length_singleton]; omega)
def boxes (l : List Box) : List Value := l.flatMap fun c => [.bool c.pairs, .int .i64 (c.parts : Int)]
theorem boxes_append (l r : List Box) : boxes (l ++ r) = boxes l ++ boxes r := by simp [boxes]
theorem boxes_length (l : List Box) : (boxes l).length = l.length * 2 := by
 induction l with
 | nil => rfl
 | cons c l ih => rw [boxes, List.flatMap_cons, List.length_append]; rw [boxes] at ih; rw [ih]; simp; omega
def Wr.Is (W : Wr) (wb : Nat) (h : Own.Heap) : Prop :=
 ∃ lv hl, h = Own.row wb 75 [lv, .bool W.done] :: hl ∧ Own.Slk 2 219 W.opened.length (boxes W.opened) lv hl
theorem Wr.Is.zero (wb : Nat) : Wr.zero.Is wb [Own.row wb 75 [.slice none 0 0, .bool false]] := ⟨_, _, rfl, .bare none rfl rfl⟩
def Wr.ahead (w : Wr) : List UInt8 := match w.opened.getLast? with | none => [] | some c => c.ahead
def Wr.bumped (w : Wr) : List Box := match w.opened.getLast? with | none => [] | some c => w.opened.dropLast ++ [⟨c.pairs, c.parts + 1⟩]
def Wr.bad (w : Wr) (p : Part) : Bool := match w.opened.getLast? with | none => false | some c => c.pairs && !c.between && !p.isWord
theorem Wr.step_bad (text : Part → List UInt8) (w : Wr) (p : Part) (hp : p.may = true) (hc : p.isClose = false) (hd : w.done = false) (hb : w.bad p = true) : w.step text p = ([], 8, w) := by
 unfold Wr.bad at hb
 cases hl : w.opened.getLast? with
 | none => rw [hl] at hb; cases hb
 | some c =>
  rw [hl] at hb
  simp only at hb
  cases p with
  | close => cases hc
  | _ => simp only [Wr.step, hp, hd, hl, hb, Bool.not_true, Bool.or_false, if_true]; simp
theorem Wr.step_begin (text : Part → List UInt8) (w : Wr) (m : Bool) (c : Int) (hp : (Part.begins m c).may = true) (hd : w.done = false) (hb : w.bad (.begins m c) = false) :
  w.step text (.begins m c) = (w.ahead ++ [if m then 123 else 91], 0, ⟨w.bumped ++ [⟨m, 0⟩], false⟩) := by
 unfold Wr.bad at hb
 unfold Wr.ahead Wr.bumped
 cases hl : w.opened.getLast? with
 | none => simp [Wr.step, hp, hd, hl]
 | some x =>
  rw [hl] at hb
  simp only at hb
  simp only [Wr.step, hp, hd, hl, hb, Bool.not_true, Bool.or_false]
  simp
theorem Wr.step_plain (text : Part → List UInt8) (w : Wr) (p : Part) (hp : p.may = true) (hc : p.isClose = false) (hg : p.isBegin = false) (hd : w.done = false) (hb : w.bad p = false) :
  w.step text p = (w.ahead ++ text p, 0, ⟨w.bumped, decide (w.opened.length = 0)⟩) := by
 unfold Wr.bad at hb
 unfold Wr.ahead Wr.bumped
 cases hl : w.opened.getLast? with
 | none =>
  have h0 : w.opened = [] := List.getLast?_eq_none_iff.1 hl
  cases p with
  | close => cases hc
  | begins m c => cases hg
  | _ => simp [Wr.step, hp, hd, h0]
 | some x =>
  have h0 : w.opened ≠ [] := by intro h; rw [h] at hl; cases hl
  rw [hl] at hb
  simp only at hb
  cases p with
  | close => cases hc
  | begins m c => cases hg
  | _ => simp only [Wr.step, hp, hd, hl, hb, Bool.not_true, Bool.or_false]; simp [h0]
theorem Wr.step_close_bad (text : Part → List UInt8) (l : List Box) (c : Box) (hb : c.between = true) : (Wr.mk (l ++ [c]) false).step text .close = ([], 14, ⟨l ++ [c], false⟩) := by
 simp [Wr.step, Part.may, hb]
theorem Wr.step_close_good (text : Part → List UInt8) (l : List Box) (c : Box) (hb : c.between = false) :
  (Wr.mk (l ++ [c]) false).step text .close = ([if c.pairs then 125 else 93], 0, ⟨l, decide (l.length = 0)⟩) := by
 simp [Wr.step, Part.may, hb]
theorem Wr.bumped_length (w : Wr) : w.bumped.length = w.opened.length := by
 unfold Wr.bumped
 cases hl : w.opened.getLast? with
 | none => rw [List.getLast?_eq_none_iff.1 hl]
 | some c =>
  have hpos : 0 < w.opened.length := List.length_pos_of_mem (List.mem_of_getLast? hl)
  simp; omega
end Json
end Go.Proofs.YthnbpnfaghjamaaGreat
