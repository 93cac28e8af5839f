/- What is read of two texts, one behind the other. No program in sight. -/
import Derived.Test.YtnpbleaikdpjiaaDoorEscF
namespace Go.Proofs.YtnpbleaikdpjiaaDoor
namespace Esc

theorem Rdr.fresh_of_whole {r : Rdr} (h : r.whole = true) : r.Fresh := by
  simp only [Rdr.whole, Chk.whole, Bool.and_eq_true, beq_iff_eq, Bool.not_eq_true'] at h
  exact ⟨h.1.1.1, h.1.1.2, h.1.2, h.2.1, h.2.2⟩

/-- What a step gives does not hang on what a fresh reader remembers. -/
structure Alike (r r' : Rdr) : Prop where
  lack : r.c.lack = r'.c.lack
  bad : r.c.bad = r'.c.bad
  lohi : r.c.lack = 0 ∨ (r.c.low = r'.c.low ∧ r.c.high = r'.c.high)
  state : r.state = r'.state
  num : r.state = 0 ∨ r.state = 1 ∨ (r.r = r'.r ∧ r.n = r'.n)
  pair : r.pair = r'.pair
  e : r.e = r'.e

theorem Alike.of_fresh {r r' : Rdr} (h : r.Fresh) (h' : r'.Fresh) : Alike r r' :=
  ⟨h.lack.trans h'.lack.symm, h.bad.trans h'.bad.symm, .inl h.lack, h.state.trans h'.state.symm, .inl h.state, h.pair.trans h'.pair.symm, h.e.trans h'.e.symm⟩

theorem alike_whole {r r' : Rdr} (h : Alike r r') : r.whole = r'.whole := by
  simp only [Rdr.whole, Chk.whole, h.lack, h.bad, h.state, h.pair, h.e]

theorem alike_may {r r' : Rdr} (h : Alike r r') (b : UInt8) : r.may b = r'.may b := by
  unfold Rdr.may
  rw [← h.state]
  rcases h.num with h0 | h0 | h0
  · simp [h0]
  · simp [h0]
  · rw [h0.2]

theorem cstep_alike {c c' : Chk} (h1 : c.lack = c'.lack) (h2 : c.bad = c'.bad) (h3 : c.lack = 0 ∨ (c.low = c'.low ∧ c.high = c'.high)) (b : UInt8) :
    (c.step b).2 = (c'.step b).2 ∧ (c.step b).1.lack = (c'.step b).1.lack ∧ (c.step b).1.bad = (c'.step b).1.bad ∧
      ((c.step b).1.lack = 0 ∨ ((c.step b).1.low = (c'.step b).1.low ∧ (c.step b).1.high = (c'.step b).1.high)) := by
  obtain ⟨l, lo, hi, d⟩ := c
  obtain ⟨l', lo', hi', d'⟩ := c'
  dsimp only at h1 h2 h3
  subst h1 h2
  rcases h3 with h3 | ⟨h3, h4⟩
  · subst h3
    cases d
    · unfold Chk.step Chk.start
      dsimp only
      by_cases g1 : b.toNat < 128
      · simp [g1]
      · by_cases g2 : 194 ≤ b.toNat ∧ b.toNat ≤ 223
        · simp [g1, g2]
        · by_cases g3 : 224 ≤ b.toNat ∧ b.toNat ≤ 239
          · simp [g1, g2, g3]
          · by_cases g4 : 240 ≤ b.toNat ∧ b.toNat ≤ 244
            · simp [g1, g2, g3, g4]
            · simp [g1, g2, g3, g4]
    · simp [Chk.step]
  · subst h3 h4
    exact ⟨rfl, rfl, rfl, .inr ⟨rfl, rfl⟩⟩

theorem alike_plain {r r' : Rdr} (h : Alike r r') (b : UInt8) : (latch (r.plain b)).2 = (latch (r'.plain b)).2 ∧ Alike (latch (r.plain b)).1 (latch (r'.plain b)).1 := by
  obtain ⟨k1, k2, k3, k4⟩ := cstep_alike h.lack h.bad h.lohi b
  unfold Rdr.plain
  by_cases g1 : b.toNat < 32 ∨ b = 34
  · simp only [g1, if_true, latch, true_and]
    exact ⟨h.lack, h.bad, h.lohi, h.state, h.num, h.pair, rfl⟩
  · simp only [g1, if_false, ← k1]
    by_cases g2 : (r.c.step b).2 = false
    · simp only [g2, if_true, latch, true_and]
      exact ⟨k2, k3, k4, h.state, h.num, h.pair, rfl⟩
    · rw [if_neg g2, if_neg g2]
      by_cases g3 : b = 92
      · rw [if_pos g3, if_pos g3]
        exact ⟨rfl, k2, k3, k4, rfl, .inr (.inl rfl), h.pair, rfl⟩
      · rw [if_neg g3, if_neg g3]
        exact ⟨rfl, k2, k3, k4, h.state, h.num, h.pair, rfl⟩

theorem alike_behind {r r' : Rdr} (h : Alike r r') (b : UInt8) : (latch (r.behind b)).2 = (latch (r'.behind b)).2 ∧ Alike (latch (r.behind b)).1 (latch (r'.behind b)).1 := by
  unfold Rdr.behind
  by_cases g1 : b = 117
  · simp only [g1, if_true, latch, true_and]
    exact ⟨h.lack, h.bad, h.lohi, rfl, .inr (.inr ⟨rfl, rfl⟩), h.pair, rfl⟩
  · simp only [g1, if_false]
    cases short b with
    | none => exact ⟨rfl, h.lack, h.bad, h.lohi, h.state, h.num, h.pair, rfl⟩
    | some x => exact ⟨rfl, h.lack, h.bad, h.lohi, rfl, .inl rfl, h.pair, rfl⟩

theorem alike_digit {r r' : Rdr} (h : Alike r r') (h0 : r.state ≠ 0) (h1 : r.state ≠ 1) (b : UInt8) : (latch (r.digit b)).2 = (latch (r'.digit b)).2 ∧ Alike (latch (r.digit b)).1 (latch (r'.digit b)).1 := by
  obtain ⟨g1, g2⟩ : r.r = r'.r ∧ r.n = r'.n := by
    rcases h.num with k | k | k
    · exact absurd k h0
    · exact absurd k h1
    · exact k
  unfold Rdr.digit
  dsimp only
  rw [← g1, ← g2, ← h.pair]
  repeat' split
  all_goals first
    | exact ⟨rfl, h.lack, h.bad, h.lohi, h.state, h.num, h.pair, rfl⟩
    | exact ⟨rfl, h.lack, h.bad, h.lohi, h.state, .inr (.inr ⟨rfl, rfl⟩), rfl, rfl⟩
    | exact ⟨rfl, h.lack, h.bad, h.lohi, rfl, .inl rfl, rfl, rfl⟩

theorem alike_step {r r' : Rdr} (h : Alike r r') (b : UInt8) : (r.step b).2 = (r'.step b).2 ∧ Alike (r.step b).1 (r'.step b).1 := by
  unfold Rdr.step
  rw [← alike_may h, ← h.e, ← h.pair, ← h.state]
  by_cases g1 : r.e ≠ 0
  · simp only [g1, ne_eq, not_false_eq_true, if_true, true_and]
    exact h
  · simp only [g1, if_false]
    by_cases g2 : 0 < r.pair ∧ r.may b = false
    · simp only [g2, and_self, if_true, true_and]
      exact ⟨h.lack, h.bad, h.lohi, rfl, h.num, rfl, rfl⟩
    · simp only [g2, if_false]
      by_cases g3 : r.state = 0
      · simp only [g3, if_true]
        exact alike_plain h b
      · simp only [g3, if_false]
        by_cases g4 : r.state = 1
        · simp only [g4, if_true]
          exact alike_behind h b
        · simp only [g4, if_false]
          exact alike_digit h g3 g4 b

theorem ans_alike : ∀ (l : List UInt8) (r r' : Rdr) (p t : List UInt8), Alike r r' → ans r l (p ++ t) = (p ++ (ans r' l t).1, (ans r' l t).2)
  | [], r, r', p, t, h => by simp [ans, alike_whole h]
  | b :: l, r, r', p, t, h => by
    obtain ⟨h1, h2⟩ := alike_step h b
    unfold ans
    rw [h1]
    split
    · rfl
    · rw [List.append_assoc]
      exact ans_alike l _ _ p _ h2

theorem ans_append : ∀ (a : List UInt8) (r : Rdr) (t o : List UInt8) (v : Bool), ans r a t = (o, v, 0) → ∃ r1 : Rdr, r1.whole = v ∧ ∀ l, ans r (a ++ l) t = ans r1 l o
  | [], r, t, o, v, h => by
    simp only [ans, Prod.mk.injEq, and_true] at h
    exact ⟨r, h.2, fun l => by rw [h.1]; rfl⟩
  | b :: a, r, t, o, v, h => by
    unfold ans at h
    split at h
    · rename_i g
      simp only [Prod.mk.injEq] at h
      exact absurd h.2.2 g
    · rename_i g
      obtain ⟨r1, h1, h2⟩ := ans_append a _ _ _ _ h
      refine ⟨r1, h1, fun l => ?_⟩
      rw [List.cons_append]
      conv => lhs; unfold ans
      rw [if_neg g]
      exact h2 l

theorem read_ok {l o : List UInt8} (h : read l = (o, 0)) : ans Rdr.zero l [] = (o, true, 0) := by
  unfold read at h
  split at h
  · rename_i g
    simp only [Prod.mk.injEq] at h
    exact absurd h.2 g
  · rename_i g
    split at h
    · rename_i g2
      simp only [Prod.mk.injEq, and_true] at h
      rw [← h, ← g2]
      have g3 : (ans Rdr.zero l []).2.2 = 0 := by omega
      rw [← g3]
    · simp at h

theorem read_append {a b o q : List UInt8} (ha : read a = (o, 0)) (hb : read b = (q, 0)) : read (a ++ b) = (o ++ q, 0) := by
  obtain ⟨r1, h1, h2⟩ := ans_append a _ _ _ _ (read_ok ha)
  have h3 : ans Rdr.zero (a ++ b) [] = (o ++ q, true, 0) := by
    rw [h2 b]
    have := ans_alike b r1 Rdr.zero o [] (Alike.of_fresh (Rdr.fresh_of_whole h1) Rdr.zero_fresh)
    rw [List.append_nil] at this
    rw [this, read_ok hb]
  unfold read
  rw [h3]
  simp
end Esc
end Go.Proofs.YtnpbleaikdpjiaaDoor
