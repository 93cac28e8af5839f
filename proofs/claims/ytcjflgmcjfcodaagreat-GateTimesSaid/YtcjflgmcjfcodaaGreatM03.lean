/- Texts of the walk, joined. -/
import Derived.Below
set_option maxRecDepth 100000
set_option maxHeartbeats 8000000
namespace Go.Proofs.Tryz end Go.Proofs.Tryz
namespace Go.Proofs.YtcjflgmcjfcodaaGreat
open Go.Proofs.Tryz
section
namespace Esc
structure Chk where
 lack : Nat
 low : UInt8
 high : UInt8
 bad : Bool
def Chk.start (c : Chk) (b : UInt8) : Chk × Bool :=
 if b.toNat < 128 then (⟨c.lack, 128, 191, c.bad⟩, true)
 else if 194 ≤ b.toNat ∧ b.toNat ≤ 223 then (⟨1, 128, 191, c.bad⟩, true)
 else if 224 ≤ b.toNat ∧ b.toNat ≤ 239 then (⟨2, if b.toNat = 224 then 160 else 128, if b.toNat = 237 then 159 else 191, c.bad⟩, true)
 else if 240 ≤ b.toNat ∧ b.toNat ≤ 244 then (⟨3, if b.toNat = 240 then 144 else 128, if b.toNat = 244 then 143 else 191, c.bad⟩, true)
 else (⟨c.lack, 128, 191, c.bad⟩, false)
def Chk.step (c : Chk) (b : UInt8) : Chk × Bool :=
 if c.bad = true then (c, false)
 else if c.lack = 0 then (⟨(c.start b).1.lack, (c.start b).1.low, (c.start b).1.high, !(c.start b).2⟩, (c.start b).2)
 else if b.toNat < c.low.toNat ∨ c.high.toNat < b.toNat then (⟨c.lack, c.low, c.high, true⟩, false)
 else (⟨c.lack - 1, 128, 191, false⟩, true)
def Chk.whole (c : Chk) : Bool := !c.bad && c.lack == 0
structure Rdr where
 c : Chk
 state : Nat
 r : Nat
 n : Nat
 pair : Nat
 e : Nat
def hex (b : UInt8) : Int :=
 if 48 ≤ b.toNat ∧ b.toNat ≤ 57 then (b.toNat : Int) - 48
 else if 97 ≤ b.toNat ||| 32 ∧ b.toNat ||| 32 ≤ 102 then ((b.toNat ||| 32 : Nat) : Int) - 87
 else -1
def Rdr.may (r : Rdr) (b : UInt8) : Bool :=
 if r.state = 0 then b == 92
 else if r.state = 1 then b == 117
 else if r.n = 0 then hex b == 13
 else if r.n = 1 then decide (12 ≤ hex b)
 else decide (0 ≤ hex b)
def Rdr.plain (r : Rdr) (b : UInt8) : Rdr × List UInt8 × Nat :=
 if b.toNat < 32 ∨ b = 34 then (r, [], 2)
 else if (r.c.step b).2 = false then (⟨(r.c.step b).1, r.state, r.r, r.n, r.pair, r.e⟩, [], 9)
 else if b = 92 then (⟨(r.c.step b).1, 1, r.r, r.n, r.pair, r.e⟩, [], 0)
 else (⟨(r.c.step b).1, r.state, r.r, r.n, r.pair, r.e⟩, [b], 0)
def short (b : UInt8) : Option UInt8 :=
 if b = 34 then some 34 else if b = 92 then some 92 else if b = 47 then some 47 else if b = 98 then some 8
 else if b = 102 then some 12 else if b = 110 then some 10 else if b = 114 then some 13 else if b = 116 then some 9 else none
def Rdr.behind (r : Rdr) (b : UInt8) : Rdr × List UInt8 × Nat :=
 if b = 117 then (⟨r.c, 2, 0, 0, r.pair, r.e⟩, [], 0)
 else match short b with
  | none => (r, [], 2)
  | some x => (⟨r.c, 0, r.r, r.n, r.pair, r.e⟩, [x], 0)
def rune (x : Int) : List UInt8 :=
 if x < 0 ∨ 1114111 < x ∨ (55296 ≤ x ∧ x ≤ 57343) then [] else (Utf8.encode x).data.toList
def Rdr.digit (r : Rdr) (b : UInt8) : Rdr × List UInt8 × Nat :=
 if hex b < 0 then (r, [], 2)
 else
  let x := r.r * 16 + (hex b).toNat
  if r.n + 1 < 4 then (⟨r.c, r.state, x, r.n + 1, r.pair, r.e⟩, [], 0)
  else if 0 < r.pair then (⟨r.c, 0, x, r.n + 1, 0, r.e⟩, rune (65536 + ((r.pair : Int) - 55296) * 1024 + x - 56320), 0)
  else if 56320 ≤ x ∧ x < 57344 then (⟨r.c, 0, x, r.n + 1, r.pair, r.e⟩, [], 9)
  else if 55296 ≤ x ∧ x < 56320 then (⟨r.c, 0, x, r.n + 1, x, r.e⟩, [], 0)
  else (⟨r.c, 0, x, r.n + 1, r.pair, r.e⟩, rune x, 0)
def dO (o : Rdr × List UInt8 × Nat) : Rdr × List UInt8 × Nat := (⟨o.1.c, o.1.state, o.1.r, o.1.n, o.1.pair, o.2.2⟩, o.2.1, o.2.2)
def Rdr.step (r : Rdr) (b : UInt8) : Rdr × List UInt8 × Nat :=
 if r.e ≠ 0 then (r, [], r.e)
 else if 0 < r.pair ∧ r.may b = false then (⟨r.c, r.state, r.r, r.n, r.pair, 9⟩, [], 9)
 else if r.state = 0 then dO (r.plain b)
 else if r.state = 1 then dO (r.behind b)
 else dO (r.digit b)
def Rdr.whole (r : Rdr) : Bool := r.e == 0 && r.state == 0 && r.pair == 0 && r.c.whole
def Rdr.zero : Rdr := ⟨⟨0, 0, 0, false⟩, 0, 0, 0, 0, 0⟩
structure Rdr.Fits (r : Rdr) : Prop where
 lack : r.c.lack ≤ 3
 state : r.state ≤ 2
 n : r.n ≤ 4
 dig : r.state = 2 → r.n ≤ 3
 val : r.r < 16 ^ r.n
 pair : r.pair < 65536
 e : r.e < 256
end Esc
end
section
namespace Esc
def Good (g : List UInt8) : Prop :=
 match g with
 | [a] => a.toNat < 128
 | [a, b] => 194 ≤ a.toNat ∧ a.toNat ≤ 223 ∧ 128 ≤ b.toNat ∧ b.toNat ≤ 191
 | [a, b, c] => 224 ≤ a.toNat ∧ a.toNat ≤ 239 ∧ (if a.toNat = 224 then 160 else 128) ≤ b.toNat ∧ b.toNat ≤ (if a.toNat = 237 then 159 else 191) ∧ 128 ≤ c.toNat ∧ c.toNat ≤ 191
 | [a, b, c, d] => 240 ≤ a.toNat ∧ a.toNat ≤ 244 ∧ (if a.toNat = 240 then 144 else 128) ≤ b.toNat ∧ b.toNat ≤ (if a.toNat = 244 then 143 else 191) ∧ 128 ≤ c.toNat ∧ c.toNat ≤ 191 ∧ 128 ≤ d.toNat ∧ d.toNat ≤ 191
 | _ => False
inductive Val : List UInt8 → Prop
 | nil : Val []
 | cons (g l : List UInt8) (hg : Good g) (hl : Val l) : Val (g ++ l)
theorem Val.append {a b : List UInt8} (ha : Val a) (hb : Val b) : Val (a ++ b) := by
 induction ha with
 | nil => exact hb
 | cons g l hg _ ih => rw [List.append_assoc]; exact .cons g _ hg ih
theorem Val.one {g : List UInt8} (hg : Good g) : Val g := by have := Val.cons g [] hg .nil; rwa [List.append_nil] at this
theorem Val.sign (b : UInt8) (h : b.toNat < 128) : Val [b] := .one h
def Acc (c : Chk) : List UInt8 → Prop
 | [] => c.lack = 0
 | b :: q => c.lack = q.length + 1 ∧ c.low.toNat ≤ b.toNat ∧ b.toNat ≤ c.high.toNat ∧ ∀ x ∈ q, 128 ≤ x.toNat ∧ x.toNat ≤ 191
structure Par (c : Chk) (l : List UInt8) : Prop where
 bad : c.bad = false
 low : 0 < c.lack → 128 ≤ c.low.toNat
 parts : ∃ v p, l = v ++ p ∧ Val v ∧ (c.lack = 0 → p = []) ∧ (0 < c.lack → ∀ q, Acc c q → Good (p ++ q))
theorem Par.zero (c : Chk) (hb : c.bad = false) (hl : c.lack = 0) : Par c [] := ⟨hb, fun h => by omega, [], [], rfl, .nil, fun _ => rfl, fun h => by omega⟩
theorem Par.val {c : Chk} {l : List UInt8} (h : Par c l) (h0 : c.lack = 0) : Val l := by
 obtain ⟨_, _, v, p, rfl, hv, hp, _⟩ := h
 rw [hp h0, List.append_nil]; exact hv
theorem Par.of {c : Chk} {l : List UInt8} (hb : c.bad = false) (h0 : c.lack = 0) (h : Val l) : Par c l := ⟨hb, fun h => by omega, l, [], (List.append_nil l).symm, h, fun _ => rfl, fun h => by omega⟩
theorem aKk {c : Chk} {q : List UInt8} (hc : c.lack = 1) (h : Acc c q) : ∃ b, q = [b] ∧ c.low.toNat ≤ b.toNat ∧ b.toNat ≤ c.high.toNat := by
 match q, h with
 | [], h => exact absurd (h.symm.trans hc) (by decide)
 | [b], h => exact ⟨b, rfl, h.2.1, h.2.2.1⟩
 | b :: d :: q, h => have := h.1; simp only [List.length_cons] at this; omega
theorem aI8 {c : Chk} {q : List UInt8} (hc : c.lack = 2) (h : Acc c q) : ∃ b d, q = [b, d] ∧ c.low.toNat ≤ b.toNat ∧ b.toNat ≤ c.high.toNat ∧ 128 ≤ d.toNat ∧ d.toNat ≤ 191 := by
 match q, h with
 | [], h => exact absurd (h.symm.trans hc) (by decide)
 | [b], h => have := h.1; simp only [List.length_nil] at this; omega
 | [b, d], h => exact ⟨b, d, rfl, h.2.1, h.2.2.1, h.2.2.2 d (by simp)⟩
 | b :: d :: e :: q, h => have := h.1; simp only [List.length_cons] at this; omega
theorem aFx {c : Chk} {q : List UInt8} (hc : c.lack = 3) (h : Acc c q) : ∃ b d e, q = [b, d, e] ∧ c.low.toNat ≤ b.toNat ∧ b.toNat ≤ c.high.toNat ∧ (128 ≤ d.toNat ∧ d.toNat ≤ 191) ∧ 128 ≤ e.toNat ∧ e.toNat ≤ 191 := by
 match q, h with
 | [], h => exact absurd (h.symm.trans hc) (by decide)
 | [b], h => have := h.1; simp only [List.length_nil] at this; omega
 | [b, d], h => have := h.1; simp only [List.length_cons, List.length_nil] at this; omega
 | [b, d, e], h => exact ⟨b, d, e, rfl, h.2.1, h.2.2.1, h.2.2.2 d (by simp), h.2.2.2 e (by simp)⟩
 | b :: d :: e :: f :: q, h => have := h.1; simp only [List.length_cons] at this; omega
theorem Par.step {c : Chk} {l : List UInt8} (h : Par c l) (b : UInt8) (hs : (c.step b).2 = true) : Par (c.step b).1 (l ++ [b]) := by
 obtain ⟨hb, _, v, p, rfl, hv, hp, hq⟩ := h
 unfold Chk.step at hs ⊢
 rw [if_neg (by rw [hb]; decide)] at hs ⊢
 by_cases h0 : c.lack = 0
 ·rw [if_pos h0] at hs ⊢
  obtain rfl := hp h0
  rw [List.append_nil]
  simp only at hs ⊢
  unfold Chk.start at hs ⊢
  split at hs
  ·rename_i h1
   rw [if_pos h1]
   exact .of rfl h0 (hv.append (.sign b h1))
  ·rename_i h1
   rw [if_neg h1]
   split at hs
   ·rename_i h2
    rw [if_pos h2]
    refine ⟨rfl, fun _ => Nat.le_refl 128, v, [b], rfl, hv, fun h => absurd (show (1 : Nat) = 0 from h) (by decide), fun _ q ha => ?_⟩
    obtain ⟨x, rfl, g1, g2⟩ := aKk rfl ha
    exact ⟨h2.1, h2.2, g1, g2⟩
   ·rename_i h2
    rw [if_neg h2]
    split at hs
    ·rename_i h3
     rw [if_pos h3]
     refine ⟨rfl, fun _ => by dsimp only; split <;> decide, v, [b], rfl, hv, fun h => absurd (show (2 : Nat) = 0 from h) (by decide), fun _ q ha => ?_⟩
     obtain ⟨x, y, rfl, g1, g2, g3⟩ := aI8 rfl ha
     refine ⟨h3.1, h3.2, ?_, ?_, g3⟩
     ·revert g1; dsimp only; split <;> exact id
     ·revert g2; dsimp only; split <;> exact id
    ·rename_i h3
     rw [if_neg h3]
     split at hs
     ·rename_i h4
      rw [if_pos h4]
      refine ⟨rfl, fun _ => by dsimp only; split <;> decide, v, [b], rfl, hv, fun h => absurd (show (3 : Nat) = 0 from h) (by decide), fun _ q ha => ?_⟩
      obtain ⟨x, y, z, rfl, g1, g2, g3, g4⟩ := aFx rfl ha
      refine ⟨h4.1, h4.2, ?_, ?_, g3.1, g3.2, g4⟩
      ·revert g1; dsimp only; split <;> exact id
      ·revert g2; dsimp only; split <;> exact id
     ·cases hs
 ·rw [if_neg h0] at hs ⊢
  by_cases hr : b.toNat < c.low.toNat ∨ c.high.toNat < b.toNat
  ·rw [if_pos hr] at hs; cases hs
  ·rw [if_neg hr]
   have hq' := hq (by omega)
   by_cases h1 : c.lack = 1
   ·have g : Good (p ++ [b]) := hq' [b] ⟨h1, by omega, by omega, fun x hx => by cases hx⟩
    refine .of rfl (by show c.lack - 1 = 0; omega) ?_
    rw [List.append_assoc]
    exact hv.append (.one g)
   ·refine ⟨rfl, fun _ => Nat.le_of_ble_eq_true rfl, v, p ++ [b], by rw [List.append_assoc], hv, fun h => absurd h (by show ¬ c.lack - 1 = 0; omega), fun _ q ha => ?_⟩
    rw [List.append_assoc]
    refine hq' (b :: q) ⟨?_, by omega, by omega, ?_⟩
    ·cases q with
     | nil => exact absurd (show c.lack - 1 = 0 from ha) (by omega)
     | cons x q => have := ha.1; simp only at this; simp only [List.length_cons]; omega
    ·cases q with
     | nil => exact fun x hx => by cases hx
     | cons x q =>
      intro y hy
      rcases List.mem_cons.1 hy with rfl | hy
      ·exact ⟨ha.2.1, ha.2.2.1⟩
      ·exact ha.2.2.2 y hy
theorem ofNat_mod (n : Nat) (h : n < 256) : (UInt8.ofNat n).toNat = n := by rw [UInt8.toNat_ofNat']; omega
theorem aIx (n : Nat) (h : n < 128) : Good [UInt8.ofNat n] := by
 show (UInt8.ofNat n).toNat < 128
 rw [ofNat_mod _ (by omega)]; exact h
theorem aG3 (n : Nat) (h1 : 128 ≤ n) (h : n < 2048) : Good [UInt8.ofNat (192 + n / 64), UInt8.ofNat (128 + n % 64)] := by
 show 194 ≤ (UInt8.ofNat (192 + n / 64)).toNat ∧ (UInt8.ofNat (192 + n / 64)).toNat ≤ 223 ∧ 128 ≤ (UInt8.ofNat (128 + n % 64)).toNat ∧ (UInt8.ofNat (128 + n % 64)).toNat ≤ 191
 rw [ofNat_mod (192 + n / 64) (by omega), ofNat_mod (128 + n % 64) (by omega)]
 omega
theorem aAq (n a b c : Nat) (h1 : 2048 ≤ n) (h : n < 65536) (hv : n < 55296 ∨ 57343 < n) (ha : a = n / 4096) (hb : b = n / 64 % 64) (hc : c = n % 64) : Good [UInt8.ofNat (224 + a), UInt8.ofNat (128 + b), UInt8.ofNat (128 + c)] := by
 show 224 ≤ (UInt8.ofNat (224 + a)).toNat ∧ (UInt8.ofNat (224 + a)).toNat ≤ 239 ∧ (if (UInt8.ofNat (224 + a)).toNat = 224 then 160 else 128) ≤ (UInt8.ofNat (128 + b)).toNat ∧ (UInt8.ofNat (128 + b)).toNat ≤ (if (UInt8.ofNat (224 + a)).toNat = 237 then 159 else 191) ∧
  128 ≤ (UInt8.ofNat (128 + c)).toNat ∧ (UInt8.ofNat (128 + c)).toNat ≤ 191
 rw [ofNat_mod (224 + a) (by omega), ofNat_mod (128 + b) (by omega), ofNat_mod (128 + c) (by omega)]
 split <;> split <;> omega
theorem aFd (n a b c d : Nat) (h1 : 65536 ≤ n) (h : n ≤ 1114111) (ha : a = n / 262144) (hb : b = n / 4096 % 64) (hc : c = n / 64 % 64) (hd : d = n % 64) : Good [UInt8.ofNat (240 + a), UInt8.ofNat (128 + b), UInt8.ofNat (128 + c), UInt8.ofNat (128 + d)] := by
 show 240 ≤ (UInt8.ofNat (240 + a)).toNat ∧ (UInt8.ofNat (240 + a)).toNat ≤ 244 ∧ (if (UInt8.ofNat (240 + a)).toNat = 240 then 144 else 128) ≤ (UInt8.ofNat (128 + b)).toNat ∧ (UInt8.ofNat (128 + b)).toNat ≤ (if (UInt8.ofNat (240 + a)).toNat = 244 then 143 else 191) ∧
  128 ≤ (UInt8.ofNat (128 + c)).toNat ∧ (UInt8.ofNat (128 + c)).toNat ≤ 191 ∧ 128 ≤ (UInt8.ofNat (128 + d)).toNat ∧ (UInt8.ofNat (128 + d)).toNat ≤ 191
 rw [ofNat_mod (240 + a) (by omega), ofNat_mod (128 + b) (by omega), ofNat_mod (128 + c) (by omega), ofNat_mod (128 + d) (by omega)]
 split <;> split <;> omega
theorem zE (x : Int) : Val (rune x) := by
 unfold rune
 split
 ·exact .nil
 ·rename_i h
  have hv : Utf8.valid x = true := by simp only [Utf8.valid, Bool.and_eq_true, Bool.or_eq_true, decide_eq_true_eq]; omega
  unfold Utf8.encode
  rw [if_pos hv]
  have h1 : x.toNat ≤ 1114111 := by omega
  have h2 : x.toNat < 55296 ∨ 57343 < x.toNat := by omega
  generalize x.toNat = n at h1 h2
  clear h hv
  dsimp only
  split
  ·exact .one (aIx n (by omega))
  ·split
   ·exact .one (aG3 n (by omega) (by omega))
   ·split
    ·exact .one (aAq n _ _ _ (by omega) (by omega) (by omega) rfl rfl rfl)
    ·exact .one (aFd n _ _ _ _ (by omega) (by omega) rfl rfl rfl rfl)
structure Told (r : Rdr) (l : List UInt8) : Prop where
 par : Par r.c l
 flat : r.state ≠ 0 → r.c.lack = 0
theorem Told.zero : Told Rdr.zero [] := ⟨.zero _ rfl rfl, fun h => absurd rfl h⟩
theorem zN (b x : UInt8) (h : short b = some x) : x.toNat < 128 := by
 unfold short at h
 repeat' split at h
 all_goals first
  | (obtain rfl := Option.some.inj h; decide)
  | cases h
theorem Told.put {r : Rdr} {l t : List UInt8} (h : Told r l) (hs : r.state ≠ 0) (ht : Val t) : Par r.c (l ++ t) := .of h.par.bad (h.flat hs) ((h.par.val (h.flat hs)).append ht)
theorem aEc {c : Chk} {l : List UInt8} (h : Par c l) (hs : ¬ (c.step 92).2 = false) : c.lack = 0 ∧ (c.step 92).1.lack = 0 := by
 have e92 : (92 : UInt8).toNat = 92 := rfl
 have hl : c.lack = 0 := by
  by_cases h0 : c.lack = 0
  ·exact h0
  ·exfalso
   apply hs
   have hlow : 128 ≤ c.low.toNat := h.low (by omega)
   unfold Chk.step
   rw [if_neg (by rw [h.bad]; decide), if_neg h0, if_pos (by rw [e92]; omega)]
 refine ⟨hl, ?_⟩
 unfold Chk.step
 rw [if_neg (by rw [h.bad]; decide), if_pos hl]
 unfold Chk.start
 rw [if_pos (by decide)]
 exact hl
theorem Told.step {r : Rdr} {l : List UInt8} (h : Told r l) (b : UInt8) (he : (r.step b).2.2 = 0) : Told (r.step b).1 (l ++ (r.step b).2.1) := by
 unfold Rdr.step at he ⊢
 by_cases h0 : r.e ≠ 0
 ·rw [if_pos h0] at he; exact absurd he h0
 ·rw [if_neg h0] at he ⊢
  by_cases h1 : 0 < r.pair ∧ r.may b = false
  ·rw [if_pos h1] at he; cases he
  ·rw [if_neg h1] at he ⊢
   by_cases h2 : r.state = 0
   ·rw [if_pos h2] at he ⊢
    unfold Rdr.plain at he ⊢
    split at he
    ·cases he
    ·rename_i k1
     rw [if_neg k1]
     split at he
     ·cases he
     ·rename_i k2
      rw [if_neg k2]
      have hp := h.par.step b (by simpa using k2)
      split at he
      ·rename_i k3
       rw [if_pos k3]
       subst k3
       simp only [dO, List.append_nil]
       obtain ⟨hl, hl2⟩ := aEc h.par k2
       exact ⟨.of hp.bad hl2 (h.par.val hl), fun _ => hl2⟩
      ·rename_i k3
       rw [if_neg k3]
       exact ⟨hp, fun hs => absurd h2 hs⟩
   ·rw [if_neg h2] at he ⊢
    have hf := h.flat h2
    by_cases h3 : r.state = 1
    ·rw [if_pos h3] at he ⊢
     unfold Rdr.behind at he ⊢
     split
     ·simp only [dO, List.append_nil]
      exact ⟨h.par, fun _ => hf⟩
     ·split
      ·rename_i k1 _ k2
       rw [if_neg k1] at he
       split at he
       ·cases he
       ·rename_i k3; rw [k2] at k3; cases k3
      ·rename_i x k2
       exact ⟨h.put h2 (.sign x (zN _ _ k2)), fun _ => hf⟩
    ·rw [if_neg h3] at he ⊢
     unfold Rdr.digit at he ⊢
     split
     ·rename_i k; rw [if_pos k] at he; cases he
     ·rename_i k
      rw [if_neg k] at he
      simp only at he ⊢
      split
      ·simp only [dO, List.append_nil]
       exact ⟨h.par, fun _ => hf⟩
      ·split
       ·exact ⟨h.put h2 (zE _), fun _ => hf⟩
       ·split
        ·rename_i k1 k2 k3
         rw [if_neg k1, if_neg k2, if_pos k3] at he
         cases he
        ·split
         ·simp only [dO, List.append_nil]
          exact ⟨h.par, fun _ => hf⟩
         ·exact ⟨h.put h2 (zE _), fun _ => hf⟩
theorem Told.whole {r : Rdr} {l : List UInt8} (h : Told r l) (hw : r.whole = true) : Val l := by
 refine h.par.val ?_
 simp only [Rdr.whole, Chk.whole, Bool.and_eq_true, beq_iff_eq] at hw
 exact hw.2.2
end Esc
end
section
namespace Esc
structure Rdr.aM6 (r : Rdr) : Prop where
 e : r.e = 0
 state : r.state = 0
 pair : r.pair = 0
 bad : r.c.bad = false
 lack : r.c.lack = 0
def ans : Rdr → List UInt8 → List UInt8 → List UInt8 × Bool × Nat
 | r, [], t => (t, r.whole, 0)
 | r, b :: l, t => if (r.step b).2.2 ≠ 0 then (t, false, (r.step b).2.2) else ans (r.step b).1 l (t ++ (r.step b).2.1)
structure Rdr.Open (r : Rdr) (k : Nat) (lo hi : UInt8) : Prop where
 e : r.e = 0
 state : r.state = 0
 pair : r.pair = 0
 bad : r.c.bad = false
 lack : r.c.lack = k
 low : r.c.low = lo
 high : r.c.high = hi
def lead (b : UInt8) : Nat × UInt8 × UInt8 :=
 if b.toNat < 128 then (1, 0, 0)
 else if 194 ≤ b.toNat ∧ b.toNat ≤ 223 then (2, 128, 191)
 else if b.toNat = 224 then (3, 160, 191)
 else if b.toNat = 237 then (3, 128, 159)
 else if 225 ≤ b.toNat ∧ b.toNat ≤ 239 then (3, 128, 191)
 else if b.toNat = 240 then (4, 144, 191)
 else if 241 ≤ b.toNat ∧ b.toNat ≤ 243 then (4, 128, 191)
 else if b.toNat = 244 then (4, 128, 143)
 else (0, 0, 0)
structure Rdr.aM7 (r : Rdr) (p : Nat) : Prop where
 e : r.e = 0
 state : r.state = 1
 pair : r.pair = p
 bad : r.c.bad = false
 lack : r.c.lack = 0
structure Rdr.Dig (r : Rdr) (k v p : Nat) : Prop where
 e : r.e = 0
 state : r.state = 2
 pair : r.pair = p
 bad : r.c.bad = false
 lack : r.c.lack = 0
 n : r.n = k
 val : r.r = v
structure Rdr.Hi (r : Rdr) (p : Nat) : Prop where
 e : r.e = 0
 state : r.state = 0
 pair : r.pair = p
 bad : r.c.bad = false
 lack : r.c.lack = 0
def aM3 (k : Nat) (b : UInt8) : Bool := if k = 0 then hex b == 13 else if k = 1 then decide (12 ≤ hex b) else decide (0 ≤ hex b)
end Esc
end
end Go.Proofs.YtcjflgmcjfcodaaGreat
