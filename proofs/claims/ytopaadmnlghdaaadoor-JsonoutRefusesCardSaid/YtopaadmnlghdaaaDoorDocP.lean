/- What is written out of a document: no byte below 32, not nothing; the same whatever the counts. In plain Lean. No walk in sight. -/
import Derived.Test.YtopaadmnlghdaaaDoorJsonD
namespace Go.Proofs.YtopaadmnlghdaaaDoor
open Go.RowKit
namespace Json

theorem digits_hi (u : Nat) : ∀ b ∈ Lib.decDigits u, 32 ≤ b.toNat := by
  have one : ∀ k : Fin 10, 32 ≤ (UInt8.ofNat (48 + k.val)).toNat := by decide
  induction u using Nat.strongRecOn with
  | ind u ih =>
    intro b hb
    rw [Lib.decDigits] at hb
    split at hb
    · rename_i h
      rw [List.mem_singleton.1 hb]
      exact one ⟨u, h⟩
    · rcases List.mem_append.1 hb with hb | hb
      · exact ih (u / 10) (by omega) b hb
      · rw [List.mem_singleton.1 hb]
        exact one ⟨u % 10, by omega⟩

theorem digits_some (u : Nat) : Lib.decDigits u ≠ [] := by
  rw [Lib.decDigits]
  split <;> simp

theorem esc1_hi (b : UInt8) : ∀ x ∈ Esc.esc1 b, 32 ≤ x.toNat := by
  have h : ∀ k : Fin 256, (Esc.esc1 (UInt8.ofNat k.val)).all (fun x => decide (32 ≤ x.toNat)) = true := by decide +kernel
  have h1 := h ⟨b.toNat, b.toNat_lt⟩
  simp only [UInt8.ofNat_toNat] at h1
  intro x hx
  simpa using List.all_eq_true.1 h1 x hx

theorem sign_hi (y : Nat) (h : y < 64) : 32 ≤ (Base.sign y).toNat := by
  have : ∀ k : Fin 64, 32 ≤ (Base.sign k.val).toNat := by decide
  exact this ⟨y, h⟩

theorem emits_hi (v n : Nat) : ∀ b ∈ Base.emits v n, 32 ≤ b.toNat := by
  induction n using Nat.strongRecOn with
  | ind n ih =>
    intro b hb
    by_cases h : n < 6
    · rw [Base.emits_lt v n h] at hb; cases hb
    · rw [Base.emits_ge v n (by omega)] at hb
      rcases List.mem_cons.1 hb with rfl | hb
      · exact sign_hi _ (Nat.mod_lt _ (by omega))
      · exact ih (n - 6) (by omega) b hb

theorem putGo_hi : ∀ (l : List UInt8) (v n : Nat), ∀ b ∈ Base.putGo l v n, 32 ≤ b.toNat
  | [], v, n => by
    intro b hb
    unfold Base.putGo at hb
    split at hb
    · rw [List.mem_singleton.1 hb]; exact sign_hi _ (Nat.mod_lt _ (by omega))
    · cases hb
  | x :: l, v, n => by
    intro b hb
    unfold Base.putGo at hb
    rcases List.mem_append.1 hb with hb | hb
    · exact emits_hi _ _ b hb
    · exact putGo_hi l _ _ b hb

theorem text_hi (p : Part) : ∀ b ∈ text p, 32 ≤ b.toNat := by
  intro b hb
  cases p with
  | bool y => cases y <;> simp [text] at hb <;> rcases hb with rfl | rfl | rfl | rfl | rfl <;> decide
  | whole n m =>
    simp only [text, dec] at hb
    split at hb
    · rcases List.mem_cons.1 hb with rfl | hb
      · decide
      · exact digits_hi _ b hb
    · exact digits_hi _ b hb
  | word s =>
    simp only [text, List.mem_cons, List.mem_append, List.not_mem_nil, or_false] at hb
    rcases hb with rfl | hb | rfl
    · decide
    · obtain ⟨x, _, hx⟩ := List.mem_flatMap.1 hb
      exact esc1_hi x b hx
    · decide
  | blob s =>
    simp only [text, List.mem_cons, List.mem_append, List.not_mem_nil, or_false] at hb
    rcases hb with rfl | hb | rfl
    · decide
    · exact putGo_hi _ _ _ b hb
    · decide
  | _ => simp [text] at hb; rcases hb with rfl | rfl | rfl <;> decide

theorem text_some (p : Part) : text p ≠ [] := by
  cases p with
  | bool y => cases y <;> simp [text]
  | whole n m =>
    simp only [text, dec]
    split
    · simp
    · exact digits_some _
  | _ => simp [text]

theorem ahead_hi (c : Box) : ∀ b ∈ c.ahead, 32 ≤ b.toNat := by
  intro b hb
  unfold Box.ahead at hb
  repeat' split at hb
  all_goals simp at hb
  all_goals (subst hb; decide)

theorem step_hi (w : Wr) (p : Part) : ∀ b ∈ (w.step text p).1, 32 ≤ b.toNat := by
  have ht := text_hi p
  intro b hb
  unfold Wr.step at hb
  split at hb
  · cases hb
  · cases p with
    | close =>
      dsimp only at hb
      split at hb
      · cases hb
      · split at hb
        · cases hb
        · rw [List.mem_singleton.1 hb]; split <;> decide
    | _ =>
      dsimp only at hb
      split at hb
      · first
        | exact ht b hb
        | (rw [List.mem_singleton.1 hb]; split <;> decide)
      · rename_i c hc
        have ha := ahead_hi c
        split at hb
        · cases hb
        · rcases List.mem_append.1 hb with hb | hb
          · exact ha b hb
          · first
            | exact ht b hb
            | (rw [List.mem_singleton.1 hb]; split <;> decide)

theorem step_some (w : Wr) (p : Part) (h : (w.step text p).2.1 = 0) : (w.step text p).1 ≠ [] := by
  have ht := text_some p
  unfold Wr.step at h ⊢
  split
  · rename_i h0; rw [if_pos h0] at h; cases h
  · rename_i h0
    rw [if_neg h0] at h
    cases p with
    | close =>
      dsimp only at h ⊢
      split
      · rename_i hc; rw [hc] at h; cases h
      · rename_i c hc
        rw [hc] at h
        dsimp only at h
        split
        · rename_i h1; rw [if_pos h1] at h; cases h
        · simp
    | _ =>
      dsimp only at h ⊢
      split
      · first | exact ht | simp
      · rename_i c hc
        rw [hc] at h
        dsimp only at h
        split
        · rename_i h1; rw [if_pos h1] at h; cases h
        · first | (simp; done) | (intro h; exact ht (List.append_eq_nil_iff.1 h).2)

theorem all_hi : ∀ (es : List Evt) (w : Wr), ∀ b ∈ (w.all text es).1, 32 ≤ b.toNat
  | [], w => by intro b hb; cases hb
  | e :: es, w => by
    intro b hb
    unfold Wr.all at hb
    split at hb
    · cases hb
    · split at hb
      · rcases List.mem_append.1 hb with hb | hb
        · exact step_hi _ _ b hb
        · exact all_hi es _ b hb
      · cases hb

theorem Good.some {W W' : Wr} {es : List Evt} (h : Good W es W') (hne : es ≠ []) : (W.all text es).1 ≠ [] := by
  cases h with
  | nil => exact absurd rfl hne
  | cons p hd hp hs h0 h =>
    rw [Wr.all_good _ _ _ _ p hp h0]
    intro k
    exact step_some _ _ h0 (List.append_eq_nil_iff.1 k).1

/-- The part with a count that is not known. -/
def Evt.opened (e : Evt) : Evt := if e.kind = 5 ∨ e.kind = 6 then { e with count := -1 } else e

def Part.opened : Part → Part
  | .begins m _ => .begins m (-1)
  | p => p

theorem Evt.opened_part (e : Evt) (p : Part) (h : e.part = Option.some p) : e.opened.part = Option.some p.opened := by
  obtain ⟨k, y, m, t, c⟩ := e
  unfold Evt.part at h
  simp only at h
  repeat' split at h
  all_goals first
    | (injection h with h; subst h; subst_vars; rfl)
    | cases h

theorem Part.opened_step (W : Wr) (p : Part) (hm : p.may = true) : W.step text p.opened = W.step text p := by
  cases p with
  | begins m c =>
    have h1 : (Part.begins m (-1)).may = true := rfl
    show W.step text (.begins m (-1)) = W.step text (.begins m c)
    unfold Wr.step
    rw [hm, h1]
    rfl
  | _ => rfl

theorem Good.opened {W W' : Wr} {es : List Evt} (h : Good W es W') : W.all text (es.map Evt.opened) = W.all text es := by
  induction h with
  | nil => rfl
  | cons p hd hp hs h0 h ih =>
    rename_i W0 W1 e es
    have hst := Part.opened_step W0 p (e.part_may p hp)
    have h0' : (W0.step text p.opened).2.1 = 0 := by rw [hst]; exact h0
    rw [List.map_cons, Wr.all_good _ _ _ _ _ (e.opened_part p hp) h0', Wr.all_good _ _ _ _ p hp h0, hst, ih]

theorem Evt.opened_small (e : Evt) (h : e.small) : e.opened.small := by
  unfold Evt.opened
  split
  · exact h
  · exact h

theorem item_some (l : List Int) (f a : Nat) : (item l f a).1 ≠ [] := by
  cases f with
  | zero =>
    rw [item]; try dsimp only
    repeat' split
    all_goals simp
  | succ f =>
    rw [item]; try dsimp only
    repeat' split
    all_goals simp

theorem doc_len (l : List Int) (depth : Nat) (h : depth ≤ 8) : (doc l depth).length ≤ 30000 := by
  have h1 := (item_len l depth 0).1
  have h2 : 3 ^ depth ≤ 3 ^ 8 := Nat.pow_le_pow_right (by omega) h
  unfold doc
  have : (3 : Nat) ^ 8 = 6561 := rfl
  omega
end Json
end Go.Proofs.YtopaadmnlghdaaaDoor
