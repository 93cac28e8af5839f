/- Texts of the walk, joined: EscM, EscP. -/
import Derived.Below
/- The readers of packages utf and escape in plain Lean: what each step does. No program in sight. -/
namespace Go.Proofs.YthnbpnfaghjamaaGreat
namespace Esc

/-- utf.Check -/
structure Chk where
  lack : Nat
  low : UInt8
  high : UInt8
  bad : Bool

def Chk.start (c : Chk) (b : UInt8) : Chk × Bool :=
  if b.toNat < 128 then (⟨c.lack, 128, 191, c.bad⟩, true)
  else if 194 ≤ b.toNat ∧ b.toNat ≤ 223 then (⟨1, 128, 191, c.bad⟩, true)
  else if 224 ≤ b.toNat ∧ b.toNat ≤ 239 then (⟨2, if b.toNat = 224 then 160 else 128, if b.toNat = 237 then 159 else 191, c.bad⟩, true)
  else if 240 ≤ b.toNat ∧ b.toNat ≤ 244 then (⟨3, if b.toNat = 240 then 144 else 128, if b.toNat = 244 then 143 else 191, c.bad⟩, true)
  else (⟨c.lack, 128, 191, c.bad⟩, false)

def Chk.step (c : Chk) (b : UInt8) : Chk × Bool :=
  if c.bad = true then (c, false)
  else if c.lack = 0 then (⟨(c.start b).1.lack, (c.start b).1.low, (c.start b).1.high, !(c.start b).2⟩, (c.start b).2)
  else if b.toNat < c.low.toNat ∨ c.high.toNat < b.toNat then (⟨c.lack, c.low, c.high, true⟩, false)
  else (⟨c.lack - 1, 128, 191, false⟩, true)

def Chk.whole (c : Chk) : Bool := !c.bad && c.lack == 0

/-- escape.Reader -/
structure Rdr where
  c : Chk
  state : Nat
  r : Nat
  n : Nat
  pair : Nat
  e : Nat

/-- A hex digit's value; -1: it is none. -/
def hex (b : UInt8) : Int :=
  if 48 ≤ b.toNat ∧ b.toNat ≤ 57 then (b.toNat : Int) - 48
  else if 97 ≤ b.toNat ||| 32 ∧ b.toNat ||| 32 ≤ 102 then ((b.toNat ||| 32 : Nat) : Int) - 87
  else -1

def Rdr.may (r : Rdr) (b : UInt8) : Bool :=
  if r.state = 0 then b == 92
  else if r.state = 1 then b == 117
  else if r.n = 0 then hex b == 13
  else if r.n = 1 then decide (12 ≤ hex b)
  else decide (0 ≤ hex b)

def Rdr.plain (r : Rdr) (b : UInt8) : Rdr × List UInt8 × Nat :=
  if b.toNat < 32 ∨ b = 34 then (r, [], 2)
  else if (r.c.step b).2 = false then (⟨(r.c.step b).1, r.state, r.r, r.n, r.pair, r.e⟩, [], 9)
  else if b = 92 then (⟨(r.c.step b).1, 1, r.r, r.n, r.pair, r.e⟩, [], 0)
  else (⟨(r.c.step b).1, r.state, r.r, r.n, r.pair, r.e⟩, [b], 0)

/-- What an escape's letter stands for. -/
def short (b : UInt8) : Option UInt8 :=
  if b = 34 then some 34 else if b = 92 then some 92 else if b = 47 then some 47 else if b = 98 then some 8
  else if b = 102 then some 12 else if b = 110 then some 10 else if b = 114 then some 13 else if b = 116 then some 9 else none

def Rdr.behind (r : Rdr) (b : UInt8) : Rdr × List UInt8 × Nat :=
  if b = 117 then (⟨r.c, 2, 0, 0, r.pair, r.e⟩, [], 0)
  else match short b with
    | none => (r, [], 2)
    | some x => (⟨r.c, 0, r.r, r.n, r.pair, r.e⟩, [x], 0)

/-- utf.Put -/
def rune (x : Int) : List UInt8 :=
  if x < 0 ∨ 1114111 < x ∨ (55296 ≤ x ∧ x ≤ 57343) then [] else (Utf8.encode x).data.toList

def Rdr.digit (r : Rdr) (b : UInt8) : Rdr × List UInt8 × Nat :=
  if hex b < 0 then (r, [], 2)
  else
    let x := r.r * 16 + (hex b).toNat
    if r.n + 1 < 4 then (⟨r.c, r.state, x, r.n + 1, r.pair, r.e⟩, [], 0)
    else if 0 < r.pair then (⟨r.c, 0, x, r.n + 1, 0, r.e⟩, rune (65536 + ((r.pair : Int) - 55296) * 1024 + x - 56320), 0)
    else if 56320 ≤ x ∧ x < 57344 then (⟨r.c, 0, x, r.n + 1, r.pair, r.e⟩, [], 9)
    else if 55296 ≤ x ∧ x < 56320 then (⟨r.c, 0, x, r.n + 1, x, r.e⟩, [], 0)
    else (⟨r.c, 0, x, r.n + 1, r.pair, r.e⟩, rune x, 0)

def latch (o : Rdr × List UInt8 × Nat) : Rdr × List UInt8 × Nat := (⟨o.1.c, o.1.state, o.1.r, o.1.n, o.1.pair, o.2.2⟩, o.2.1, o.2.2)

def Rdr.step (r : Rdr) (b : UInt8) : Rdr × List UInt8 × Nat :=
  if r.e ≠ 0 then (r, [], r.e)
  else if 0 < r.pair ∧ r.may b = false then (⟨r.c, r.state, r.r, r.n, r.pair, 9⟩, [], 9)
  else if r.state = 0 then latch (r.plain b)
  else if r.state = 1 then latch (r.behind b)
  else latch (r.digit b)

def Rdr.whole (r : Rdr) : Bool := r.e == 0 && r.state == 0 && r.pair == 0 && r.c.whole

def Rdr.zero : Rdr := ⟨⟨0, 0, 0, false⟩, 0, 0, 0, 0, 0⟩

/-- The numbers stay small. -/
structure Rdr.Fits (r : Rdr) : Prop where
  lack : r.c.lack ≤ 3
  state : r.state ≤ 2
  n : r.n ≤ 4
  dig : r.state = 2 → r.n ≤ 3
  val : r.r < 16 ^ r.n
  pair : r.pair < 65536
  e : r.e < 256

end Esc
end Go.Proofs.YthnbpnfaghjamaaGreat

/- What a Reader tells of bytes, unit by unit. No program in sight. -/
namespace Go.Proofs.YthnbpnfaghjamaaGreat
namespace Esc

/-- Nothing is open. -/
structure Rdr.Fresh (r : Rdr) : Prop where
  e : r.e = 0
  state : r.state = 0
  pair : r.pair = 0
  bad : r.c.bad = false
  lack : r.c.lack = 0

theorem Rdr.zero_fresh : Rdr.zero.Fresh := ⟨rfl, rfl, rfl, rfl, rfl⟩

/-- All that comes of bytes: the text, whether nothing is open at the end, the first error. -/
def ans : Rdr → List UInt8 → List UInt8 → List UInt8 × Bool × Nat
  | r, [], t => (t, r.whole, 0)
  | r, b :: l, t => if (r.step b).2.2 ≠ 0 then (t, false, (r.step b).2.2) else ans (r.step b).1 l (t ++ (r.step b).2.1)

theorem ans_err (r : Rdr) (b : UInt8) (l t : List UInt8) (n : Nat) (h : (r.step b).2.2 = n) (hn : n ≠ 0) : ans r (b :: l) t = (t, false, n) := by
  simp [ans, h, hn]

theorem ans_ok (r r' : Rdr) (b : UInt8) (l t o : List UInt8) (h : r.step b = (r', o, 0)) : ans r (b :: l) t = ans r' l (t ++ o) := by
  simp [ans, h]

theorem Rdr.Fresh.whole {r : Rdr} (h : r.Fresh) : r.whole = true := by
  simp [Rdr.whole, Chk.whole, h.e, h.state, h.pair, h.bad, h.lack]

theorem step_plain {r : Rdr} (he : r.e = 0) (hs : r.state = 0) (hp : r.pair = 0) (b : UInt8) : r.step b = latch (r.plain b) := by
  simp [Rdr.step, he, hs, hp]

/-- A quote or a control byte. -/
theorem step_ctl {r : Rdr} (he : r.e = 0) (hs : r.state = 0) (hp : r.pair = 0) (b : UInt8) (h : b.toNat < 32 ∨ b = 34) : (r.step b).2.2 = 2 := by
  rw [step_plain he hs hp]
  simp [Rdr.plain, latch, h]

/-- An ASCII byte that is itself. -/
theorem step_ascii {r : Rdr} (h : r.Fresh) (b : UInt8) (h1 : 32 ≤ b.toNat) (h2 : b.toNat < 128) (h3 : b ≠ 34) (h4 : b ≠ 92) :
    ∃ r', r.step b = (r', [b], 0) ∧ r'.Fresh := by
  refine ⟨⟨⟨0, 128, 191, false⟩, 0, r.r, r.n, 0, 0⟩, ?_, ⟨rfl, rfl, rfl, rfl, rfl⟩⟩
  rw [step_plain h.e h.state h.pair]
  simp [Rdr.plain, latch, Chk.step, Chk.start, h.bad, h.lack, h2, h3, h4, show ¬ b.toNat < 32 by omega, h.state, h.pair]

/-- A rune lacks k bytes, the next one between lo and hi. -/
structure Rdr.Open (r : Rdr) (k : Nat) (lo hi : UInt8) : Prop where
  e : r.e = 0
  state : r.state = 0
  pair : r.pair = 0
  bad : r.c.bad = false
  lack : r.c.lack = k
  low : r.c.low = lo
  high : r.c.high = hi

/-- How many bytes a rune has that begins so, and its second byte's bounds; 0: none. -/
def lead (b : UInt8) : Nat × UInt8 × UInt8 :=
  if b.toNat < 128 then (1, 0, 0)
  else if 194 ≤ b.toNat ∧ b.toNat ≤ 223 then (2, 128, 191)
  else if b.toNat = 224 then (3, 160, 191)
  else if b.toNat = 237 then (3, 128, 159)
  else if 225 ≤ b.toNat ∧ b.toNat ≤ 239 then (3, 128, 191)
  else if b.toNat = 240 then (4, 144, 191)
  else if 241 ≤ b.toNat ∧ b.toNat ≤ 243 then (4, 128, 191)
  else if b.toNat = 244 then (4, 128, 143)
  else (0, 0, 0)

theorem lead_start (c : Chk) (b : UInt8) (hb : 128 ≤ b.toNat) (hl : (lead b).1 ≠ 0) :
    c.start b = (⟨(lead b).1 - 1, (lead b).2.1, (lead b).2.2, c.bad⟩, true) := by
  have h128 : ¬ b.toNat < 128 := by omega
  unfold lead at hl ⊢
  unfold Chk.start
  simp only [if_neg h128] at hl ⊢
  by_cases h1 : 194 ≤ b.toNat ∧ b.toNat ≤ 223
  · simp [h1]
  simp only [if_neg h1] at hl ⊢
  by_cases h2 : b.toNat = 224
  · simp [h2]
  simp only [if_neg h2] at hl ⊢
  by_cases h3 : b.toNat = 237
  · simp [h3]
  simp only [if_neg h3] at hl ⊢
  by_cases h4 : 225 ≤ b.toNat ∧ b.toNat ≤ 239
  · simp [h4, show 224 ≤ b.toNat by omega]
  simp only [if_neg h4] at hl ⊢
  rw [if_neg (show ¬ (224 ≤ b.toNat ∧ b.toNat ≤ 239) by omega)]
  by_cases h5 : b.toNat = 240
  · simp [h5]
  simp only [if_neg h5] at hl ⊢
  by_cases h6 : 241 ≤ b.toNat ∧ b.toNat ≤ 243
  · simp [h6, show 240 ≤ b.toNat by omega, show b.toNat ≤ 244 by omega, show ¬ b.toNat = 244 by omega]
  simp only [if_neg h6] at hl ⊢
  by_cases h7 : b.toNat = 244
  · simp [h7]
  simp only [if_neg h7] at hl
  exact absurd rfl hl

theorem lead_bad (c : Chk) (b : UInt8) (hb : 128 ≤ b.toNat) (hl : (lead b).1 = 0) : (c.start b).2 = false := by
  have h128 : ¬ b.toNat < 128 := by omega
  unfold lead at hl
  unfold Chk.start
  simp only [if_neg h128] at hl ⊢
  by_cases h1 : 194 ≤ b.toNat ∧ b.toNat ≤ 223
  · simp [h1] at hl
  simp only [if_neg h1] at hl ⊢
  by_cases h2 : b.toNat = 224
  · simp [h2] at hl
  simp only [if_neg h2] at hl
  by_cases h3 : b.toNat = 237
  · simp [h3] at hl
  simp only [if_neg h3] at hl
  by_cases h4 : 225 ≤ b.toNat ∧ b.toNat ≤ 239
  · simp [h4] at hl
  simp only [if_neg h4] at hl
  by_cases h5 : b.toNat = 240
  · simp [h5] at hl
  simp only [if_neg h5] at hl
  by_cases h6 : 241 ≤ b.toNat ∧ b.toNat ≤ 243
  · simp [h6] at hl
  simp only [if_neg h6] at hl
  by_cases h7 : b.toNat = 244
  · simp [h7] at hl
  rw [if_neg (show ¬ (224 ≤ b.toNat ∧ b.toNat ≤ 239) by omega), if_neg (show ¬ (240 ≤ b.toNat ∧ b.toNat ≤ 244) by omega)]

theorem step_lead {r : Rdr} (h : r.Fresh) (b : UInt8) (hb : 128 ≤ b.toNat) (hl : (lead b).1 ≠ 0) :
    ∃ r', r.step b = (r', [b], 0) ∧ r'.Open ((lead b).1 - 1) (lead b).2.1 (lead b).2.2 := by
  have h34 : ¬ b = 34 := by rintro rfl; simp at hb
  have h92 : ¬ b = 92 := by rintro rfl; simp at hb
  have h32 : ¬ b.toNat < 32 := by omega
  refine ⟨⟨⟨(lead b).1 - 1, (lead b).2.1, (lead b).2.2, false⟩, 0, r.r, r.n, 0, 0⟩, ?_, ⟨rfl, rfl, rfl, rfl, rfl, rfl, rfl⟩⟩
  rw [step_plain h.e h.state h.pair]
  simp [Rdr.plain, latch, Chk.step, h.bad, h.lack, h34, h92, h32, lead_start r.c b hb hl, h.state, h.pair]

theorem step_lead_bad {r : Rdr} (h : r.Fresh) (b : UInt8) (hb : 128 ≤ b.toNat) (hl : (lead b).1 = 0) : (r.step b).2.2 = 9 := by
  have h34 : ¬ b = 34 := by rintro rfl; simp at hb
  have h32 : ¬ b.toNat < 32 := by omega
  rw [step_plain h.e h.state h.pair]
  simp [Rdr.plain, latch, Chk.step, h.bad, h.lack, h34, h32, lead_bad r.c b hb hl]

theorem step_open_ctl {r : Rdr} {k : Nat} {lo hi : UInt8} (h : r.Open k lo hi) (b : UInt8) (hb : b.toNat < 32 ∨ b = 34) : (r.step b).2.2 = 2 := step_ctl h.e h.state h.pair b hb

theorem step_open_bad {r : Rdr} {k : Nat} {lo hi : UInt8} (h : r.Open (k + 1) lo hi) (b : UInt8) (h1 : ¬ (b.toNat < 32 ∨ b = 34)) (hb : b.toNat < lo.toNat ∨ hi.toNat < b.toNat) : (r.step b).2.2 = 9 := by
  rw [step_plain h.e h.state h.pair]
  have h34 : ¬ b = 34 := fun e => h1 (.inr e)
  have h32 : ¬ b.toNat < 32 := fun e => h1 (.inl e)
  simp [Rdr.plain, latch, Chk.step, h.bad, h.lack, h.low, h.high, h34, h32, hb]

theorem step_open_ok {r : Rdr} {k : Nat} {lo hi : UInt8} (h : r.Open (k + 1) lo hi) (b : UInt8) (h1 : 128 ≤ b.toNat) (hb : ¬ (b.toNat < lo.toNat ∨ hi.toNat < b.toNat)) :
    ∃ r', r.step b = (r', [b], 0) ∧ r'.Open k 128 191 := by
  have h34 : ¬ b = 34 := by rintro rfl; simp at h1
  have h92 : ¬ b = 92 := by rintro rfl; simp at h1
  have h32 : ¬ b.toNat < 32 := by omega
  refine ⟨⟨⟨k, 128, 191, false⟩, 0, r.r, r.n, 0, 0⟩, ?_, ⟨rfl, rfl, rfl, rfl, rfl, rfl, rfl⟩⟩
  rw [step_plain h.e h.state h.pair]
  simp [Rdr.plain, latch, Chk.step, h.bad, h.lack, h.low, h.high, h34, h92, h32, hb, h.state, h.pair]

theorem Rdr.Open.fresh {r : Rdr} {lo hi : UInt8} (h : r.Open 0 lo hi) : r.Fresh := ⟨h.e, h.state, h.pair, h.bad, h.lack⟩
theorem Rdr.Open.not_whole {r : Rdr} {k : Nat} {lo hi : UInt8} (h : r.Open (k + 1) lo hi) : r.whole = false := by
  simp [Rdr.whole, Chk.whole, h.e, h.state, h.pair, h.bad, h.lack]

/-- Behind a backslash (p: the high surrogate that is open, or 0). -/
structure Rdr.Back (r : Rdr) (p : Nat) : Prop where
  e : r.e = 0
  state : r.state = 1
  pair : r.pair = p
  bad : r.c.bad = false
  lack : r.c.lack = 0

/-- Behind k digits, v in all. -/
structure Rdr.Dig (r : Rdr) (k v p : Nat) : Prop where
  e : r.e = 0
  state : r.state = 2
  pair : r.pair = p
  bad : r.c.bad = false
  lack : r.c.lack = 0
  n : r.n = k
  val : r.r = v

/-- Behind a high surrogate. -/
structure Rdr.Hi (r : Rdr) (p : Nat) : Prop where
  e : r.e = 0
  state : r.state = 0
  pair : r.pair = p
  bad : r.c.bad = false
  lack : r.c.lack = 0

theorem Rdr.Back.not_whole {r : Rdr} {p : Nat} (h : r.Back p) : r.whole = false := by simp [Rdr.whole, h.state]
theorem Rdr.Dig.not_whole {r : Rdr} {k v p : Nat} (h : r.Dig k v p) : r.whole = false := by simp [Rdr.whole, h.state]
theorem Rdr.Hi.not_whole {r : Rdr} {p : Nat} (h : r.Hi p) (hp : 0 < p) : r.whole = false := by
  have : ¬ p = 0 := by omega
  simp [Rdr.whole, h.pair, this]

theorem step_back {r : Rdr} (h : r.Fresh) : ∃ r', r.step 92 = (r', [], 0) ∧ r'.Back 0 := by
  refine ⟨⟨⟨0, 128, 191, false⟩, 1, r.r, r.n, 0, 0⟩, ?_, ⟨rfl, rfl, rfl, rfl, rfl⟩⟩
  rw [step_plain h.e h.state h.pair]
  simp [Rdr.plain, latch, Chk.step, Chk.start, h.bad, h.lack, h.pair]

theorem step_hi_bad {r : Rdr} {p : Nat} (h : r.Hi p) (hp : 0 < p) (b : UInt8) (hb : b ≠ 92) : (r.step b).2.2 = 9 := by
  simp [Rdr.step, h.e, h.pair, hp, Rdr.may, h.state, hb]

theorem step_hi {r : Rdr} {p : Nat} (h : r.Hi p) (hp : 0 < p) : ∃ r', r.step 92 = (r', [], 0) ∧ r'.Back p := by
  refine ⟨⟨⟨0, 128, 191, false⟩, 1, r.r, r.n, p, 0⟩, ?_, ⟨rfl, rfl, rfl, rfl, rfl⟩⟩
  simp [Rdr.step, h.e, h.pair, hp, Rdr.may, h.state, Rdr.plain, latch, Chk.step, Chk.start, h.bad, h.lack]

theorem step_back_u {r : Rdr} {p : Nat} (h : r.Back p) : ∃ r', r.step 117 = (r', [], 0) ∧ r'.Dig 0 0 p := by
  refine ⟨⟨r.c, 2, 0, 0, p, 0⟩, ?_, ⟨rfl, rfl, rfl, h.bad, h.lack, rfl, rfl⟩⟩
  simp [Rdr.step, h.e, h.state, Rdr.may, Rdr.behind, latch, h.pair]

theorem step_back_bad {r : Rdr} (h : r.Back 0) (b : UInt8) (hb : b ≠ 117) (hs : short b = none) : (r.step b).2.2 = 2 := by
  simp [Rdr.step, h.e, h.state, h.pair, Rdr.behind, latch, hb, hs]

theorem step_back_short {r : Rdr} (h : r.Back 0) (b x : UInt8) (hb : b ≠ 117) (hs : short b = some x) : ∃ r', r.step b = (r', [x], 0) ∧ r'.Fresh := by
  refine ⟨⟨r.c, 0, r.r, r.n, 0, 0⟩, ?_, ⟨rfl, rfl, rfl, h.bad, h.lack⟩⟩
  simp [Rdr.step, h.e, h.state, h.pair, Rdr.behind, latch, hb, hs]

theorem step_back_hi_bad {r : Rdr} {p : Nat} (h : r.Back p) (hp : 0 < p) (b : UInt8) (hb : b ≠ 117) : (r.step b).2.2 = 9 := by
  simp [Rdr.step, h.e, h.pair, hp, Rdr.may, h.state, hb]

theorem step_dig_bad {r : Rdr} {k v : Nat} (h : r.Dig k v 0) (b : UInt8) (hb : hex b < 0) : (r.step b).2.2 = 2 := by
  simp [Rdr.step, h.e, h.state, h.pair, Rdr.digit, latch, hb]

/-- What a digit of a low surrogate may be. -/
def lowMay (k : Nat) (b : UInt8) : Bool := if k = 0 then hex b == 13 else if k = 1 then decide (12 ≤ hex b) else decide (0 ≤ hex b)

theorem lowMay_hex {k : Nat} {b : UInt8} (h : lowMay k b = true) : 0 ≤ hex b := by
  unfold lowMay at h
  split at h
  · have := beq_iff_eq.1 h; omega
  · split at h
    · have := of_decide_eq_true h; omega
    · exact of_decide_eq_true h

theorem step_dig_hi_bad {r : Rdr} {k v p : Nat} (h : r.Dig k v p) (hp : 0 < p) (b : UInt8) (hb : lowMay k b = false) : (r.step b).2.2 = 9 := by
  have hm : r.may b = false := by
    unfold Rdr.may
    rw [h.state, h.n]
    exact hb
  simp [Rdr.step, h.e, h.pair, hp, hm]

theorem may_dig {r : Rdr} {k v p : Nat} (h : r.Dig k v p) (b : UInt8) : r.may b = lowMay k b := by
  unfold Rdr.may
  rw [h.state, h.n]
  rfl

theorem step_dig {r : Rdr} {k v p : Nat} (h : r.Dig k v p) (b : UInt8) (h0 : 0 ≤ hex b) (hb : 0 < p → lowMay k b = true) (hk : k + 1 < 4) :
    ∃ r', r.step b = (r', [], 0) ∧ r'.Dig (k + 1) (v * 16 + (hex b).toNat) p := by
  refine ⟨⟨r.c, 2, v * 16 + (hex b).toNat, k + 1, p, 0⟩, ?_, ⟨rfl, rfl, rfl, h.bad, h.lack, rfl, rfl⟩⟩
  have hm : ¬ (0 < r.pair ∧ r.may b = false) := by
    rw [may_dig h, h.pair]
    rintro ⟨a, c⟩
    rw [hb a] at c
    cases c
  rw [Rdr.step, if_neg (by simp [h.e]), if_neg hm, h.state]
  simp [Rdr.digit, latch, h.n, h.val, h.pair, h.state, show ¬ hex b < 0 by omega, hk]

theorem step_last {r : Rdr} {v : Nat} (h : r.Dig 3 v 0) (b : UInt8) (h0 : 0 ≤ hex b) (x : Nat) (hx : x = v * 16 + (hex b).toNat) (h1 : ¬ (56320 ≤ x ∧ x < 57344)) (h2 : ¬ (55296 ≤ x ∧ x < 56320)) :
    ∃ r', r.step b = (r', rune x, 0) ∧ r'.Fresh := by
  refine ⟨⟨r.c, 0, x, 4, 0, 0⟩, ?_, ⟨rfl, rfl, rfl, h.bad, h.lack⟩⟩
  have hm : ¬ (0 < r.pair ∧ r.may b = false) := by rw [h.pair]; omega
  rw [Rdr.step, if_neg (by simp [h.e]), if_neg hm, h.state]
  simp [Rdr.digit, latch, h.n, h.val, h.pair, show ¬ hex b < 0 by omega, ← hx, h1, h2]

theorem step_last_low {r : Rdr} {v : Nat} (h : r.Dig 3 v 0) (b : UInt8) (h0 : 0 ≤ hex b) (x : Nat) (hx : x = v * 16 + (hex b).toNat) (h1 : 56320 ≤ x ∧ x < 57344) : (r.step b).2.2 = 9 := by
  have hm : ¬ (0 < r.pair ∧ r.may b = false) := by rw [h.pair]; omega
  rw [Rdr.step, if_neg (by simp [h.e]), if_neg hm, h.state]
  simp [Rdr.digit, latch, h.n, h.val, h.pair, show ¬ hex b < 0 by omega, ← hx, h1]

theorem step_last_high {r : Rdr} {v : Nat} (h : r.Dig 3 v 0) (b : UInt8) (h0 : 0 ≤ hex b) (x : Nat) (hx : x = v * 16 + (hex b).toNat) (h2 : 55296 ≤ x ∧ x < 56320) :
    ∃ r', r.step b = (r', [], 0) ∧ r'.Hi x := by
  refine ⟨⟨r.c, 0, x, 4, x, 0⟩, ?_, ⟨rfl, rfl, rfl, h.bad, h.lack⟩⟩
  have hm : ¬ (0 < r.pair ∧ r.may b = false) := by rw [h.pair]; omega
  have h1 : ¬ (56320 ≤ x ∧ x < 57344) := by omega
  rw [Rdr.step, if_neg (by simp [h.e]), if_neg hm, h.state]
  simp [Rdr.digit, latch, h.n, h.val, h.pair, show ¬ hex b < 0 by omega, ← hx, h1, h2]

theorem step_last_pair {r : Rdr} {v p : Nat} (h : r.Dig 3 v p) (hp : 0 < p) (b : UInt8) (h0 : lowMay 3 b = true) (x : Nat) (hx : x = v * 16 + (hex b).toNat) :
    ∃ r', r.step b = (r', rune (65536 + ((p : Int) - 55296) * 1024 + x - 56320), 0) ∧ r'.Fresh := by
  refine ⟨⟨r.c, 0, x, 4, 0, 0⟩, ?_, ⟨rfl, rfl, rfl, h.bad, h.lack⟩⟩
  have hm : ¬ (0 < r.pair ∧ r.may b = false) := by
    rw [may_dig h, h0]; rintro ⟨_, c⟩; cases c
  have hh := lowMay_hex h0
  rw [Rdr.step, if_neg (by simp [h.e]), if_neg hm, h.state]
  simp [Rdr.digit, latch, h.n, h.val, h.pair, show ¬ hex b < 0 by omega, ← hx, hp]
end Esc
end Go.Proofs.YthnbpnfaghjamaaGreat
