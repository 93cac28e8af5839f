/- What is written of runes is read back; quotes in it stand behind a backslash. No program in sight. -/
import Derived.Test.YtnpbleaikdpjiaaDoorEscJ
import Derived.Test.YtnpbleaikdpjiaaDoorEscQ
import Derived.Test.YtnpbleaikdpjiaaDoorRefRune
namespace Go.Proofs.YtnpbleaikdpjiaaDoor
namespace Esc

theorem back_low : ∀ n : Fin 128, read (esc1 (UInt8.ofNat n.val)) = ([UInt8.ofNat n.val], 0) := by decide +kernel

theorem mk_inj (a b : List UInt8) (h : (⟨a.toArray⟩ : ByteArray) = ⟨b.toArray⟩) : a = b := by
  have := congrArg (fun s : ByteArray => s.data.toList) h
  simpa using this

theorem rune1 (k : Nat) (h : k < 128) : rune (k : Int) = [UInt8.ofNat k] :=
  mk_inj _ _ ((Ref.p1 k h).symm.trans (Ref.nums _ [k] rfl))
theorem rune2 (k : Nat) (h0 : 128 ≤ k) (h : k < 2048) : rune (k : Int) = [UInt8.ofNat (192 + k / 64), UInt8.ofNat (128 + k % 64)] :=
  mk_inj _ _ ((Ref.p2 k h0 h).symm.trans (Ref.nums _ [192 + k / 64, 128 + k % 64] (by simp only [List.map_cons, List.map_nil, List.cons.injEq, and_true]; omega)))
theorem rune3 (k : Nat) (h0 : 2048 ≤ k) (h : k < 65536) (h2 : k < 55296 ∨ 57343 < k) : rune (k : Int) = [UInt8.ofNat (224 + k / 4096), UInt8.ofNat (128 + k / 64 % 64), UInt8.ofNat (128 + k % 64)] :=
  mk_inj _ _ ((Ref.p3 k h0 h h2).symm.trans (Ref.nums _ [224 + k / 4096, 128 + k / 64 % 64, 128 + k % 64] (by simp only [List.map_cons, List.map_nil, List.cons.injEq, and_true]; omega)))
theorem rune4 (k : Nat) (h0 : 65536 ≤ k) (h : k ≤ 1114111) : rune (k : Int) = [UInt8.ofNat (240 + k / 262144), UInt8.ofNat (128 + k / 4096 % 64), UInt8.ofNat (128 + k / 64 % 64), UInt8.ofNat (128 + k % 64)] :=
  mk_inj _ _ ((Ref.p4 k h0 h).symm.trans (Ref.nums _ [240 + k / 262144, 128 + k / 4096 % 64, 128 + k / 64 % 64, 128 + k % 64] (by simp only [List.map_cons, List.map_nil, List.cons.injEq, and_true]; omega)))

theorem ofNat_toNat (n : Nat) (h : n < 256) : (UInt8.ofNat n).toNat = n := by
  simp; omega

theorem lead_two (b : UInt8) (h1 : 194 ≤ b.toNat) (h2 : b.toNat ≤ 223) : lead b = (2, 128, 191) := by
  unfold lead
  rw [if_neg (by omega), if_pos (by omega)]
theorem lead_224 (b : UInt8) (h : b.toNat = 224) : lead b = (3, 160, 191) := by
  unfold lead
  rw [if_neg (by omega), if_neg (by omega), if_pos h]
theorem lead_237 (b : UInt8) (h : b.toNat = 237) : lead b = (3, 128, 159) := by
  unfold lead
  rw [if_neg (by omega), if_neg (by omega), if_neg (by omega), if_pos h]
theorem lead_three (b : UInt8) (h1 : 225 ≤ b.toNat) (h2 : b.toNat ≤ 239) (h3 : b.toNat ≠ 237) : lead b = (3, 128, 191) := by
  unfold lead
  rw [if_neg (by omega), if_neg (by omega), if_neg (by omega), if_neg (by omega), if_pos (by omega)]
theorem lead_240 (b : UInt8) (h : b.toNat = 240) : lead b = (4, 144, 191) := by
  unfold lead
  rw [if_neg (by omega), if_neg (by omega), if_neg (by omega), if_neg (by omega), if_neg (by omega), if_pos h]
theorem lead_four (b : UInt8) (h1 : 241 ≤ b.toNat) (h2 : b.toNat ≤ 243) : lead b = (4, 128, 191) := by
  unfold lead
  rw [if_neg (by omega), if_neg (by omega), if_neg (by omega), if_neg (by omega), if_neg (by omega), if_neg (by omega), if_pos (by omega)]
theorem lead_244 (b : UInt8) (h : b.toNat = 244) : lead b = (4, 128, 143) := by
  unfold lead
  rw [if_neg (by omega), if_neg (by omega), if_neg (by omega), if_neg (by omega), if_neg (by omega), if_neg (by omega), if_neg (by omega), if_pos h]

theorem open_run : ∀ (l : List UInt8) (r : Rdr) (t : List UInt8), r.Open l.length 128 191 → (∀ b ∈ l, 128 ≤ b.toNat ∧ b.toNat ≤ 191) → ans r l t = (t ++ l, true, 0)
  | [], r, t, h, _ => by simp [ans, (Rdr.Open.fresh h).whole]
  | b :: l, r, t, h, hm => by
    have hb := hm b (by simp)
    obtain ⟨r1, h1, k1⟩ := step_open_ok h b hb.1 (by show ¬ (b.toNat < 128 ∨ 191 < b.toNat); omega)
    rw [ans_ok _ _ _ _ _ _ h1, open_run l r1 _ k1 (fun c hc => hm c (by simp [hc]))]
    simp

theorem read_all {l t : List UInt8} (h : ans Rdr.zero l [] = (t, true, 0)) : read l = (t, 0) := by
  unfold read
  rw [h]
  simp

theorem multi (b0 b1 lo hi : UInt8) (l : List UInt8) (hl : lead b0 = (l.length + 2, lo, hi)) (h0 : 128 ≤ b0.toNat) (h1 : 128 ≤ b1.toNat) (h2 : lo.toNat ≤ b1.toNat) (h3 : b1.toNat ≤ hi.toNat) (hm : ∀ b ∈ l, 128 ≤ b.toNat ∧ b.toNat ≤ 191) :
    read (b0 :: b1 :: l) = (b0 :: b1 :: l, 0) := by
  obtain ⟨r1, e1, k1⟩ := step_lead Rdr.zero_fresh b0 h0 (by rw [hl]; exact Nat.succ_ne_zero _)
  rw [hl] at k1
  obtain ⟨r2, e2, k2⟩ := step_open_ok (k := l.length) k1 b1 h1 (by show ¬ (b1.toNat < lo.toNat ∨ hi.toNat < b1.toNat); omega)
  refine read_all ?_
  rw [ans_ok _ _ _ _ _ _ e1, ans_ok _ _ _ _ _ _ e2, open_run l r2 _ k2 hm]
  rfl

theorem cont_ok (n : Nat) : 128 ≤ (UInt8.ofNat (128 + n % 64)).toNat ∧ (UInt8.ofNat (128 + n % 64)).toNat ≤ 191 := by
  rw [ofNat_toNat _ (by omega)]; omega

theorem high_all {l : List UInt8} (h : ∀ b ∈ l, 128 ≤ b.toNat ∧ b.toNat ≤ 255) : write l = l := write_high l fun b hb => (h b hb).1

theorem back_rune (x : Int) : read (write (rune x)) = (rune x, 0) ∧ (write (rune x)).length ≤ 6 := by
  by_cases hx : x < 0 ∨ 1114111 < x ∨ (55296 ≤ x ∧ x ≤ 57343)
  · rw [show rune x = [] by unfold rune; rw [if_pos hx]]
    exact ⟨rfl, by decide⟩
  obtain ⟨k, rfl⟩ : ∃ k : Nat, x = k := ⟨x.toNat, by omega⟩
  by_cases g1 : k < 128
  · rw [rune1 k g1]
    have e : write [UInt8.ofNat k] = esc1 (UInt8.ofNat k) := by simp [write]
    rw [e]
    exact ⟨back_low ⟨k, g1⟩, esc1_length _⟩
  by_cases g2 : k < 2048
  · rw [rune2 k (by omega) g2]
    have q0 : (UInt8.ofNat (192 + k / 64)).toNat = 192 + k / 64 := ofNat_toNat _ (by omega)
    have q1 := cont_ok k
    rw [write_high _ (by intro b hb; simp only [List.mem_cons, List.not_mem_nil, or_false] at hb; rcases hb with rfl | rfl <;> omega)]
    refine ⟨multi _ _ 128 191 [] (lead_two _ (by omega) (by omega)) (by omega) q1.1 q1.1 q1.2 (by simp), by simp⟩
  by_cases g3 : k < 65536
  · rw [rune3 k (by omega) g3 (by omega)]
    have q0 : (UInt8.ofNat (224 + k / 4096)).toNat = 224 + k / 4096 := ofNat_toNat _ (by omega)
    have q1 := cont_ok (k / 64)
    have q2 := cont_ok k
    have q1' : (UInt8.ofNat (128 + k / 64 % 64)).toNat = 128 + k / 64 % 64 := ofNat_toNat _ (by omega)
    have hm : ∀ b ∈ [UInt8.ofNat (128 + k % 64)], 128 ≤ b.toNat ∧ b.toNat ≤ 191 := by
      intro b hb; simp only [List.mem_cons, List.not_mem_nil, or_false] at hb; rw [hb]; exact q2
    rw [write_high _ (by intro b hb; simp only [List.mem_cons, List.not_mem_nil, or_false] at hb; rcases hb with rfl | rfl | rfl <;> omega)]
    refine ⟨?_, by simp⟩
    by_cases c1 : k / 4096 = 0
    · exact multi _ _ 160 191 _ (lead_224 _ (by omega)) (by omega) q1.1 (by show 160 ≤ _; omega) q1.2 hm
    · by_cases c2 : k / 4096 = 13
      · exact multi _ _ 128 159 _ (lead_237 _ (by omega)) (by omega) q1.1 q1.1 (by show _ ≤ 159; omega) hm
      · exact multi _ _ 128 191 _ (lead_three _ (by omega) (by omega) (by omega)) (by omega) q1.1 q1.1 q1.2 hm
  · rw [rune4 k (by omega) (by omega)]
    have q0 : (UInt8.ofNat (240 + k / 262144)).toNat = 240 + k / 262144 := ofNat_toNat _ (by omega)
    have q1 := cont_ok (k / 4096)
    have q1' : (UInt8.ofNat (128 + k / 4096 % 64)).toNat = 128 + k / 4096 % 64 := ofNat_toNat _ (by omega)
    have q2 := cont_ok (k / 64)
    have q3 := cont_ok k
    have hm : ∀ b ∈ [UInt8.ofNat (128 + k / 64 % 64), UInt8.ofNat (128 + k % 64)], 128 ≤ b.toNat ∧ b.toNat ≤ 191 := by
      intro b hb; simp only [List.mem_cons, List.not_mem_nil, or_false] at hb
      rcases hb with rfl | rfl
      · exact q2
      · exact q3
    rw [write_high _ (by intro b hb; simp only [List.mem_cons, List.not_mem_nil, or_false] at hb; rcases hb with rfl | rfl | rfl | rfl <;> omega)]
    refine ⟨?_, by simp⟩
    by_cases c1 : k / 262144 = 0
    · exact multi _ _ 144 191 _ (lead_240 _ (by omega)) (by omega) q1.1 (by show 144 ≤ _; omega) q1.2 hm
    · by_cases c2 : k / 262144 = 4
      · exact multi _ _ 128 143 _ (lead_244 _ (by omega)) (by omega) q1.1 q1.1 (by show _ ≤ 143; omega) hm
      · exact multi _ _ 128 191 _ (lead_four _ (by omega) (by omega)) (by omega) q1.1 q1.1 q1.2 hm

/-- The text of runes. -/
def text (l : List Int) : List UInt8 := l.flatMap rune

theorem text_snoc (l : List Int) (x : Int) : text (l ++ [x]) = text l ++ rune x := by simp [text]

theorem back_text : ∀ l : List Int, read (write (text l)) = (text l, 0) ∧ (write (text l)).length ≤ 6 * l.length ∧ (text l).length ≤ 4 * l.length
  | [] => ⟨rfl, by decide, by decide⟩
  | x :: l => by
    obtain ⟨h1, h2, h3⟩ := back_text l
    obtain ⟨k1, k2⟩ := back_rune x
    have e : text (x :: l) = rune x ++ text l := rfl
    have k3 := rune_length x
    rw [e, write_append]
    refine ⟨read_append k1 h1, ?_, ?_⟩
    · rw [List.length_append, List.length_cons]; omega
    · rw [List.length_append, List.length_cons]; omega

/-- No byte below 32; a quote stands behind a backslash. -/
def Quoted (l : List UInt8) : Prop := ∀ i, i < l.length → 32 ≤ (l.getD i 0).toNat ∧ (l.getD i 0 = 34 → 0 < i ∧ l.getD (i - 1) 0 = 92)

def quotedB (l : List UInt8) : Bool := (List.range l.length).all fun i => decide (32 ≤ (l.getD i 0).toNat) && (l.getD i 0 != 34 || (decide (0 < i) && l.getD (i - 1) 0 == 92))

theorem Quoted.of (l : List UInt8) (h : quotedB l = true) : Quoted l := by
  intro i hi
  have h1 := List.all_eq_true.1 h i (List.mem_range.2 hi)
  simp only [Bool.and_eq_true, decide_eq_true_eq, Bool.or_eq_true, bne_iff_ne, ne_eq, beq_iff_eq] at h1
  refine ⟨h1.1, fun e => ?_⟩
  rcases h1.2 with h2 | h2
  · exact absurd e h2
  · exact h2

theorem quoted_all : ∀ n : Fin 256, quotedB (esc1 (UInt8.ofNat n.val)) = true := by decide +kernel

theorem quoted_esc1 (b : UInt8) : Quoted (esc1 b) := by
  have h := quoted_all ⟨b.toNat, b.toNat_lt⟩
  have e : UInt8.ofNat b.toNat = b := by simp
  rw [e] at h
  exact Quoted.of _ h

theorem getD_l (a b : List UInt8) (i : Nat) (h : i < a.length) : (a ++ b).getD i 0 = a.getD i 0 := by
  rw [List.getD_eq_getElem?_getD, List.getD_eq_getElem?_getD, List.getElem?_append_left h]
theorem getD_r (a b : List UInt8) (i : Nat) (h : a.length ≤ i) : (a ++ b).getD i 0 = b.getD (i - a.length) 0 := by
  rw [List.getD_eq_getElem?_getD, List.getD_eq_getElem?_getD, List.getElem?_append_right h]

theorem Quoted.append {a b : List UInt8} (ha : Quoted a) (hb : Quoted b) : Quoted (a ++ b) := by
  intro i hi
  by_cases h : i < a.length
  · obtain ⟨h1, h2⟩ := ha i h
    rw [getD_l _ _ _ h]
    refine ⟨h1, fun e => ⟨(h2 e).1, ?_⟩⟩
    rw [getD_l _ _ _ (by omega)]
    exact (h2 e).2
  · obtain ⟨h1, h2⟩ := hb (i - a.length) (by rw [List.length_append] at hi; omega)
    rw [getD_r _ _ _ (by omega)]
    refine ⟨h1, fun e => ?_⟩
    obtain ⟨h3, h4⟩ := h2 e
    refine ⟨by omega, ?_⟩
    rw [getD_r _ _ _ (by omega), show i - 1 - a.length = i - a.length - 1 by omega]
    exact h4

theorem quoted_write : ∀ l : List UInt8, Quoted (write l)
  | [] => fun i hi => absurd hi (by simp [write])
  | b :: l => (quoted_esc1 b).append (quoted_write l)
end Esc
end Go.Proofs.YtnpbleaikdpjiaaDoor
