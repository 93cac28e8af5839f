/- What the document's reader of a string's inside finds, against the Reader's steps. No program in sight. -/
import Derived.Test.YtnpbleaikdpjiaaDoorEscF
import Derived.Test.YtnpbleaikdpjiaaDoorEscBack
namespace Go.Proofs.YtnpbleaikdpjiaaDoor
namespace Esc

/-- Four digits: their number, how many, an error. -/
def fourGo : Nat → List UInt8 → Nat → Nat → Nat × Nat × Nat
  | 0, _, k, v => (v, k, 0)
  | _ + 1, [], k, _ => (0, k, 0)
  | f + 1, b :: l, k, v => if hex b < 0 then (0, k, 2) else fourGo f l (k + 1) (v * 16 + (hex b).toNat)

def lowOk (k : Nat) (b : UInt8) : Bool :=
  if k = 0 then b == 92 else if k = 1 then b == 117 else if k = 2 then (b == 100 || b == 68) else if k = 3 then decide (12 ≤ hex b) else decide (0 ≤ hex b)

/-- The beginning of a low surrogate's escape. -/
def lowGo : Nat → List UInt8 → Nat → Nat × Bool
  | 0, _, k => (k, true)
  | _ + 1, [], k => (k, true)
  | f + 1, b :: l, k => if lowOk k b = true then lowGo f l (k + 1) else (k, false)

theorem thirteen_all : ∀ n : Fin 256, (UInt8.ofNat n.val == 100 || UInt8.ofNat n.val == 68) = (hex (UInt8.ofNat n.val) == 13) := by decide +kernel
theorem thirteen (b : UInt8) : (b == 100 || b == 68) = (hex b == 13) := by
  have h := thirteen_all ⟨b.toNat, b.toNat_lt⟩
  have e : UInt8.ofNat b.toNat = b := by simp
  rw [e] at h
  exact h

theorem lowOk_may (k : Nat) (b : UInt8) : lowOk (k + 2) b = lowMay k b := by
  unfold lowOk lowMay
  rw [if_neg (by omega), if_neg (by omega)]
  by_cases h0 : k = 0
  · subst h0; simp only [Nat.zero_add, if_true]; exact thirteen b
  · rw [if_neg (by omega), if_neg h0]
    by_cases h1 : k = 1
    · subst h1; simp
    · rw [if_neg (by omega), if_neg h1]

theorem ans_nil (r : Rdr) (t : List UInt8) (h : r.whole = false) : ans r [] t = (t, false, 0) := by simp [ans, h]

theorem ans_bad (r : Rdr) (b : UInt8) (l t : List UInt8) (n : Nat) (h : (r.step b).2.2 = n) (hn : n ≠ 0) : (ans r (b :: l) t).2.2 = n := by
  rw [ans_err r b l t n h hn]

/-- The digits of a rune that stands alone. -/
theorem four_ans : ∀ (f k : Nat) (l : List UInt8) (r : Rdr) (v : Nat) (t : List UInt8), f + k = 4 → 0 < f → r.Dig k v 0 → v < 16 ^ k →
    ((fourGo f l k v).2.2 = 2 ∧ (ans r l t).2.2 = 2) ∨
    ((fourGo f l k v).2.2 = 0 ∧ (fourGo f l k v).2.1 < 4 ∧ ans r l t = (t, false, 0)) ∨
    ((fourGo f l k v).2.2 = 0 ∧ (fourGo f l k v).2.1 = 4 ∧ f ≤ l.length ∧ (fourGo f l k v).1 < 65536 ∧
      ((56320 ≤ (fourGo f l k v).1 ∧ (fourGo f l k v).1 < 57344 ∧ (ans r l t).2.2 = 9) ∨
       (55296 ≤ (fourGo f l k v).1 ∧ (fourGo f l k v).1 < 56320 ∧ ∃ r' : Rdr, r'.Hi (fourGo f l k v).1 ∧ ans r l t = ans r' (l.drop f) t) ∨
       (¬ (56320 ≤ (fourGo f l k v).1 ∧ (fourGo f l k v).1 < 57344) ∧ ¬ (55296 ≤ (fourGo f l k v).1 ∧ (fourGo f l k v).1 < 56320) ∧ ∃ r' : Rdr, r'.Fresh ∧ ans r l t = ans r' (l.drop f) (t ++ rune ((fourGo f l k v).1 : Int)))))
  | 0, _, _, _, _, _, _, h0, _, _ => absurd h0 (by omega)
  | f + 1, k, [], r, v, t, hf, _, hd, _ => .inr (.inl ⟨rfl, by show k < 4; omega, ans_nil r t hd.not_whole⟩)
  | f + 1, k, b :: l, r, v, t, hf, _, hd, hv => by
    by_cases hb : hex b < 0
    · left
      have e : fourGo (f + 1) (b :: l) k v = (0, k, 2) := by unfold fourGo; rw [if_pos hb]
      rw [e]
      exact ⟨rfl, ans_bad r b l t 2 (step_dig_bad hd b hb) (by decide)⟩
    · have e : fourGo (f + 1) (b :: l) k v = fourGo f l (k + 1) (v * 16 + (hex b).toNat) := by
        conv => lhs; unfold fourGo
        rw [if_neg hb]
      have hh := hex_lt b
      have hp : v * 16 + (hex b).toNat < 16 ^ (k + 1) := by rw [Nat.pow_succ]; omega
      by_cases hl : f = 0
      · subst hl
        obtain rfl : k = 3 := by omega
        right; right
        have e2 : fourGo (0 + 1) (b :: l) 3 v = (v * 16 + (hex b).toNat, 4, 0) := by rw [e]; unfold fourGo; rfl
        rw [e2]
        refine ⟨rfl, rfl, by simp, by show _ < 65536; simpa using hp, ?_⟩
        obtain ⟨x, hx⟩ : ∃ x, x = v * 16 + (hex b).toNat := ⟨_, rfl⟩
        dsimp only
        rw [← hx]
        by_cases h1 : 56320 ≤ x ∧ x < 57344
        · exact .inl ⟨h1.1, h1.2, ans_bad r b l t 9 (step_last_low hd b (by omega) x hx h1) (by decide)⟩
        · by_cases h2 : 55296 ≤ x ∧ x < 56320
          · obtain ⟨r', s1, s2⟩ := step_last_high hd b (by omega) x hx h2
            refine .inr (.inl ⟨h2.1, h2.2, r', s2, ?_⟩)
            rw [ans_ok _ _ _ _ _ _ s1, List.append_nil]; rfl
          · obtain ⟨r', s1, s2⟩ := step_last hd b (by omega) x hx h1 h2
            refine .inr (.inr ⟨h1, h2, r', s2, ?_⟩)
            rw [ans_ok _ _ _ _ _ _ s1]; rfl
      · obtain ⟨r', s1, s2⟩ := step_dig hd b (by omega) (by omega) (by omega)
        have ih := four_ans f (k + 1) l r' _ t (by omega) (by omega) s2 hp
        rw [e]
        have ea : ans r (b :: l) t = ans r' l t := by rw [ans_ok _ _ _ _ _ _ s1, List.append_nil]
        rw [ea]
        have ed : (b :: l).drop (f + 1) = l.drop f := rfl
        rw [ed, List.length_cons]
        rcases ih with h | h | ⟨h1, h2, h3, h4, h5⟩
        · exact .inl h
        · exact .inr (.inl h)
        · exact .inr (.inr ⟨h1, h2, by omega, h4, h5⟩)

/-- The digits of a low surrogate. -/
theorem low_dig : ∀ (f k : Nat) (l : List UInt8) (r : Rdr) (v p : Nat) (t : List UInt8), f + k = 4 → 0 < f → 0 < p → r.Dig k v p → v < 16 ^ k →
    ((lowGo f l (k + 2)).2 = false ∧ (ans r l t).2.2 = 9) ∨
    ((lowGo f l (k + 2)).2 = true ∧ (lowGo f l (k + 2)).1 < 6 ∧ ans r l t = (t, false, 0)) ∨
    ((lowGo f l (k + 2)).2 = true ∧ (lowGo f l (k + 2)).1 = 6 ∧ f ≤ l.length ∧ (fourGo f l k v).2.2 = 0 ∧ (fourGo f l k v).2.1 = 4 ∧ (fourGo f l k v).1 < 65536 ∧
      ∃ r' : Rdr, r'.Fresh ∧ ans r l t = ans r' (l.drop f) (t ++ rune (65536 + ((p : Int) - 55296) * 1024 + ((fourGo f l k v).1 : Int) - 56320)))
  | 0, _, _, _, _, _, _, _, h0, _, _, _ => absurd h0 (by omega)
  | f + 1, k, [], r, v, p, t, hf, _, _, hd, _ => .inr (.inl ⟨rfl, by show k + 2 < 6; omega, ans_nil r t hd.not_whole⟩)
  | f + 1, k, b :: l, r, v, p, t, hf, _, hp, hd, hv => by
    have hm := lowOk_may k b
    cases hb : lowMay k b with
    | false =>
      left
      have e : lowGo (f + 1) (b :: l) (k + 2) = (k + 2, false) := by unfold lowGo; rw [if_neg (by rw [hm, hb]; decide)]
      rw [e]
      exact ⟨rfl, ans_bad r b l t 9 (step_dig_hi_bad hd hp b hb) (by decide)⟩
    | true =>
      have e : lowGo (f + 1) (b :: l) (k + 2) = lowGo f l (k + 1 + 2) := by
        conv => lhs; unfold lowGo
        rw [if_pos (by rw [hm, hb])]
      have h0 := lowMay_hex hb
      have e4 : fourGo (f + 1) (b :: l) k v = fourGo f l (k + 1) (v * 16 + (hex b).toNat) := by
        conv => lhs; unfold fourGo
        rw [if_neg (by omega)]
      have hh := hex_lt b
      have hpw : v * 16 + (hex b).toNat < 16 ^ (k + 1) := by rw [Nat.pow_succ]; omega
      by_cases hl : f = 0
      · subst hl
        obtain rfl : k = 3 := by omega
        right; right
        have e2 : fourGo (0 + 1) (b :: l) 3 v = (v * 16 + (hex b).toNat, 4, 0) := by rw [e4]; unfold fourGo; rfl
        have e3 : lowGo (0 + 1) (b :: l) (3 + 2) = (6, true) := by rw [e]; unfold lowGo; rfl
        rw [e2, e3]
        obtain ⟨r', s1, s2⟩ := step_last_pair hd hp b hb _ rfl
        refine ⟨rfl, rfl, by simp, rfl, rfl, by show _ < 65536; simpa using hpw, r', s2, ?_⟩
        rw [ans_ok _ _ _ _ _ _ s1]; rfl
      · obtain ⟨r', s1, s2⟩ := step_dig hd b h0 (fun _ => hb) (by omega)
        have ih := low_dig f (k + 1) l r' _ p t (by omega) (by omega) hp s2 hpw
        rw [e, e4]
        have ea : ans r (b :: l) t = ans r' l t := by rw [ans_ok _ _ _ _ _ _ s1, List.append_nil]
        rw [ea]
        have ed : (b :: l).drop (f + 1) = l.drop f := rfl
        rw [ed, List.length_cons]
        rcases ih with h | h | ⟨h1, h2, h3, h4⟩
        · exact .inl h
        · exact .inr (.inl h)
        · exact .inr (.inr ⟨h1, h2, by omega, h4⟩)

theorem low_ans (l : List UInt8) (r : Rdr) (p : Nat) (t : List UInt8) (hp : 0 < p) (hr : r.Hi p) :
    ((lowGo 6 l 0).2 = false ∧ (ans r l t).2.2 = 9) ∨
    ((lowGo 6 l 0).2 = true ∧ (lowGo 6 l 0).1 < 6 ∧ ans r l t = (t, false, 0)) ∨
    ((lowGo 6 l 0).2 = true ∧ (lowGo 6 l 0).1 = 6 ∧ 6 ≤ l.length ∧ (fourGo 4 (l.drop 2) 0 0).2.2 = 0 ∧ (fourGo 4 (l.drop 2) 0 0).2.1 = 4 ∧ (fourGo 4 (l.drop 2) 0 0).1 < 65536 ∧
      ∃ r' : Rdr, r'.Fresh ∧ ans r l t = ans r' (l.drop 6) (t ++ rune (65536 + ((p : Int) - 55296) * 1024 + ((fourGo 4 (l.drop 2) 0 0).1 : Int) - 56320))) := by
  match l with
  | [] => exact .inr (.inl ⟨rfl, by decide, ans_nil r t (hr.not_whole hp)⟩)
  | b :: l =>
    by_cases h1 : b = 92
    · subst h1
      obtain ⟨r1, s1, k1⟩ := step_hi hr hp
      have ea : ∀ l, ans r (92 :: l) t = ans r1 l t := fun l => by rw [ans_ok _ _ _ _ _ _ s1, List.append_nil]
      have eg : ∀ l, lowGo 6 (92 :: l) 0 = lowGo 5 l 1 := fun l => by
        conv => lhs; unfold lowGo
        rw [if_pos (by decide)]
      rw [ea, eg]
      match l with
      | [] => exact .inr (.inl ⟨rfl, by decide, ans_nil r1 t k1.not_whole⟩)
      | c :: l =>
        by_cases h2 : c = 117
        · subst h2
          obtain ⟨r2, s2, k2⟩ := step_back_u k1
          have ea2 : ans r1 (117 :: l) t = ans r2 l t := by rw [ans_ok _ _ _ _ _ _ s2, List.append_nil]
          have eg2 : lowGo 5 (117 :: l) 1 = lowGo 4 l (0 + 2) := by
            conv => lhs; unfold lowGo
            rw [if_pos (by decide)]
          rw [ea2, eg2]
          rcases low_dig 4 0 l r2 0 p t (by omega) (by omega) hp k2 (by decide) with h | h | ⟨g1, g2, g3, g4⟩
          · exact .inl h
          · exact .inr (.inl h)
          · exact .inr (.inr ⟨g1, g2, by simp; omega, g4⟩)
        · left
          have eg2 : lowGo 5 (c :: l) 1 = (1, false) := by
            unfold lowGo
            rw [if_neg (by unfold lowOk; simp [h2])]
          rw [eg2]
          exact ⟨rfl, ans_bad r1 c l t 9 (step_back_hi_bad k1 hp c h2) (by decide)⟩
    · left
      have eg : lowGo 6 (b :: l) 0 = (0, false) := by
        unfold lowGo
        rw [if_neg (by unfold lowOk; simp [h1])]
      rw [eg]
      refine ⟨rfl, ans_bad r b l t 9 ?_ (by decide)⟩
      simp [Rdr.step, hr.e, hr.pair, hp, Rdr.may, hr.state, h1]
end Esc
end Go.Proofs.YtnpbleaikdpjiaaDoor
