/- Texts of the walk, joined. -/
import Derived.Below
/- The readers of packages utf and escape in plain Lean: what each step does. No program in sight. -/
namespace Go.Proofs.YthnbpnfaghjamaaGreat
namespace Esc
structure Chk where
 lack : Nat
 low : UInt8
 high : UInt8
 bad : Bool
def Chk.start (c : Chk) (b : UInt8) : Chk × Bool :=
 if b.toNat < 128 then (⟨c.lack, 128, 191, c.bad⟩, true)
 else if 194 ≤ b.toNat ∧ b.toNat ≤ 223 then (⟨1, 128, 191, c.bad⟩, true)
 else if 224 ≤ b.toNat ∧ b.toNat ≤ 239 then (⟨2, if b.toNat = 224 then 160 else 128, if b.toNat = 237 then 159 else 191, c.bad⟩, true)
 else if 240 ≤ b.toNat ∧ b.toNat ≤ 244 then (⟨3, if b.toNat = 240 then 144 else 128, if b.toNat = 244 then 143 else 191, c.bad⟩, true)
 else (⟨c.lack, 128, 191, c.bad⟩, false)
def Chk.step (c : Chk) (b : UInt8) : Chk × Bool :=
 if c.bad = true then (c, false)
 else if c.lack = 0 then (⟨(c.start b).1.lack, (c.start b).1.low, (c.start b).1.high, !(c.start b).2⟩, (c.start b).2)
 else if b.toNat < c.low.toNat ∨ c.high.toNat < b.toNat then (⟨c.lack, c.low, c.high, true⟩, false)
 else (⟨c.lack - 1, 128, 191, false⟩, true)
def Chk.whole (c : Chk) : Bool := !c.bad && c.lack == 0
structure Rdr where
 c : Chk
 state : Nat
 r : Nat
 n : Nat
 pair : Nat
 e : Nat
def hex (b : UInt8) : Int :=
 if 48 ≤ b.toNat ∧ b.toNat ≤ 57 then (b.toNat : Int) - 48
 else if 97 ≤ b.toNat ||| 32 ∧ b.toNat ||| 32 ≤ 102 then ((b.toNat ||| 32 : Nat) : Int) - 87
 else -1
def Rdr.may (r : Rdr) (b : UInt8) : Bool :=
 if r.state = 0 then b == 92
 else if r.state = 1 then b == 117
 else if r.n = 0 then hex b == 13
 else if r.n = 1 then decide (12 ≤ hex b)
 else decide (0 ≤ hex b)
def Rdr.plain (r : Rdr) (b : UInt8) : Rdr × List UInt8 × Nat :=
 if b.toNat < 32 ∨ b = 34 then (r, [], 2)
 else if (r.c.step b).2 = false then (⟨(r.c.step b).1, r.state, r.r, r.n, r.pair, r.e⟩, [], 9)
 else if b = 92 then (⟨(r.c.step b).1, 1, r.r, r.n, r.pair, r.e⟩, [], 0)
 else (⟨(r.c.step b).1, r.state, r.r, r.n, r.pair, r.e⟩, [b], 0)
def short (b : UInt8) : Option UInt8 :=
 if b = 34 then some 34 else if b = 92 then some 92 else if b = 47 then some 47 else if b = 98 then some 8
 else if b = 102 then some 12 else if b = 110 then some 10 else if b = 114 then some 13 else if b = 116 then some 9 else none
def Rdr.behind (r : Rdr) (b : UInt8) : Rdr × List UInt8 × Nat :=
 if b = 117 then (⟨r.c, 2, 0, 0, r.pair, r.e⟩, [], 0)
 else match short b with
  | none => (r, [], 2)
  | some x => (⟨r.c, 0, r.r, r.n, r.pair, r.e⟩, [x], 0)
def rune (x : Int) : List UInt8 :=
 if x < 0 ∨ 1114111 < x ∨ (55296 ≤ x ∧ x ≤ 57343) then [] else (Utf8.encode x).data.toList
def Rdr.digit (r : Rdr) (b : UInt8) : Rdr × List UInt8 × Nat :=
 if hex b < 0 then (r, [], 2)
 else
  let x := r.r * 16 + (hex b).toNat
  if r.n + 1 < 4 then (⟨r.c, r.state, x, r.n + 1, r.pair, r.e⟩, [], 0)
  else if 0 < r.pair then (⟨r.c, 0, x, r.n + 1, 0, r.e⟩, rune (65536 + ((r.pair : Int) - 55296) * 1024 + x - 56320), 0)
  else if 56320 ≤ x ∧ x < 57344 then (⟨r.c, 0, x, r.n + 1, r.pair, r.e⟩, [], 9)
  else if 55296 ≤ x ∧ x < 56320 then (⟨r.c, 0, x, r.n + 1, x, r.e⟩, [], 0)
  else (⟨r.c, 0, x, r.n + 1, r.pair, r.e⟩, rune x, 0)
def latch (o : Rdr × List UInt8 × Nat) : Rdr × List UInt8 × Nat := (⟨o.1.c, o.1.state, o.1.r, o.1.n, o.1.pair, o.2.2⟩, o.2.1, o.2.2)
def Rdr.step (r : Rdr) (b : UInt8) : Rdr × List UInt8 × Nat :=
 if r.e ≠ 0 then (r, [], r.e)
 else if 0 < r.pair ∧ r.may b = false then (⟨r.c, r.state, r.r, r.n, r.pair, 9⟩, [], 9)
 else if r.state = 0 then latch (r.plain b)
 else if r.state = 1 then latch (r.behind b)
 else latch (r.digit b)
def Rdr.whole (r : Rdr) : Bool := r.e == 0 && r.state == 0 && r.pair == 0 && r.c.whole
def Rdr.zero : Rdr := ⟨⟨0, 0, 0, false⟩, 0, 0, 0, 0, 0⟩
structure Rdr.Fits (r : Rdr) : Prop where
 lack : r.c.lack ≤ 3
 state : r.state ≤ 2
 n : r.n ≤ 4
 dig : r.state = 2 → r.n ≤ 3
 val : r.r < 16 ^ r.n
 pair : r.pair < 65536
 e : r.e < 256
end Esc
end Go.Proofs.YthnbpnfaghjamaaGreat

/- What a Reader tells of bytes, unit by unit. No program in sight. -/
namespace Go.Proofs.YthnbpnfaghjamaaGreat
namespace Esc
structure Rdr.Fresh (r : Rdr) : Prop where
 e : r.e = 0
 state : r.state = 0
 pair : r.pair = 0
 bad : r.c.bad = false
 lack : r.c.lack = 0
def ans : Rdr → List UInt8 → List UInt8 → List UInt8 × Bool × Nat
 | r, [], t => (t, r.whole, 0)
 | r, b :: l, t => if (r.step b).2.2 ≠ 0 then (t, false, (r.step b).2.2) else ans (r.step b).1 l (t ++ (r.step b).2.1)
theorem Rdr.Fresh.whole {r : Rdr} (h : r.Fresh) : r.whole = true := by
 simp [Rdr.whole, Chk.whole, h.e, h.state, h.pair, h.bad, h.lack]
theorem step_plain {r : Rdr} (he : r.e = 0) (hs : r.state = 0) (hp : r.pair = 0) (b : UInt8) : r.step b = latch (r.plain b) := by
 simp [Rdr.step, he, hs, hp]
structure Rdr.Open (r : Rdr) (k : Nat) (lo hi : UInt8) : Prop where
 e : r.e = 0
 state : r.state = 0
 pair : r.pair = 0
 bad : r.c.bad = false
 lack : r.c.lack = k
 low : r.c.low = lo
 high : r.c.high = hi
def lead (b : UInt8) : Nat × UInt8 × UInt8 :=
 if b.toNat < 128 then (1, 0, 0)
 else if 194 ≤ b.toNat ∧ b.toNat ≤ 223 then (2, 128, 191)
 else if b.toNat = 224 then (3, 160, 191)
 else if b.toNat = 237 then (3, 128, 159)
 else if 225 ≤ b.toNat ∧ b.toNat ≤ 239 then (3, 128, 191)
 else if b.toNat = 240 then (4, 144, 191)
 else if 241 ≤ b.toNat ∧ b.toNat ≤ 243 then (4, 128, 191)
 else if b.toNat = 244 then (4, 128, 143)
 else (0, 0, 0)
theorem Rdr.Open.fresh {r : Rdr} {lo hi : UInt8} (h : r.Open 0 lo hi) : r.Fresh := ⟨h.e, h.state, h.pair, h.bad, h.lack⟩
structure Rdr.Back (r : Rdr) (p : Nat) : Prop where
 e : r.e = 0
 state : r.state = 1
 pair : r.pair = p
 bad : r.c.bad = false
 lack : r.c.lack = 0
structure Rdr.Dig (r : Rdr) (k v p : Nat) : Prop where
 e : r.e = 0
 state : r.state = 2
 pair : r.pair = p
 bad : r.c.bad = false
 lack : r.c.lack = 0
 n : r.n = k
 val : r.r = v
structure Rdr.Hi (r : Rdr) (p : Nat) : Prop where
 e : r.e = 0
 state : r.state = 0
 pair : r.pair = p
 bad : r.c.bad = false
 lack : r.c.lack = 0
def lowMay (k : Nat) (b : UInt8) : Bool := if k = 0 then hex b == 13 else if k = 1 then decide (12 ≤ hex b) else decide (0 ≤ hex b)
end Esc
end Go.Proofs.YthnbpnfaghjamaaGreat
