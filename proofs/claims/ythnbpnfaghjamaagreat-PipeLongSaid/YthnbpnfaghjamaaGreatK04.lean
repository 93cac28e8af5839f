/- Texts of the walk, joined. -/
import Derived.Test.YthnbpnfaghjamaaGreatK02
import Derived.Test.YthnbpnfaghjamaaGreatK03
/- The pipe in plain Lean: numbers, tokens, the three readers, the three writers, the stage, the way through. No program in sight. -/
namespace Go.Proofs.YthnbpnfaghjamaaGreat
namespace Pip
open Json (Part Wr)
structure Num where
 neg : Bool
 minus : Bool
 digits : Bool
 zero : Bool
 v : Nat
 top : Bool
 over : Bool
 e : Nat
def Num.new : Num := ⟨false, false, false, false, 0, false, false, 0⟩
def isDigit (b : UInt8) : Bool := decide (48 ≤ b.toNat) && decide (b.toNat ≤ 57)
def Num.add (n : Num) (d : Nat) : Num :=
 if n.top = true ∨ n.over = true then ⟨n.neg, n.minus, n.digits, n.zero, n.v, n.top, true, n.e⟩
 else ⟨n.neg, n.minus, n.digits, n.zero, (n.v * 10 + d) % 18446744073709551616, (n.v * 10 + d) / 18446744073709551616 == 1, decide (1 < (n.v * 10 + d) / 18446744073709551616), n.e⟩
def Num.step (n : Num) (b : UInt8) : Num × Bool × Nat :=
 if n.e ≠ 0 then (n, false, n.e)
 else if isDigit b = true ∧ n.zero = false then (⟨n.neg, n.minus, true, !n.digits && b == 48, (n.add (b.toNat - 48)).v, (n.add (b.toNat - 48)).top, (n.add (b.toNat - 48)).over, n.e⟩, true, 0)
 else if b = 45 ∧ n.minus = false ∧ n.digits = false then (⟨true, true, n.digits, n.zero, n.v, n.top, n.over, n.e⟩, true, 0)
 else if n.digits = true ∧ (b = 46 ∨ b = 101 ∨ b = 69) then (⟨n.neg, n.minus, n.digits, n.zero, n.v, n.top, n.over, 6⟩, false, 6)
 else if n.digits = false ∨ isDigit b = true then (⟨n.neg, n.minus, n.digits, n.zero, n.v, n.top, n.over, 2⟩, false, 2)
 else (n, false, 0)
def Num.fin (n : Num) : Bool × Nat × Nat :=
 if n.e ≠ 0 then (false, 0, n.e)
 else if n.digits = false then (false, 0, 2)
 else if n.over = true ∨ (n.top = true ∧ (n.neg = false ∨ 0 < n.v)) then (false, 0, 7)
 else if n.neg = true ∧ (0 < n.v ∨ n.top = true) then (true, (n.v + 18446744073709551615) % 18446744073709551616, 0)
 else (false, n.v, 0)
structure Num.Fits (n : Num) : Prop where
 v : n.v < 18446744073709551616
 e : n.e < 256
theorem Num.Fits.new : Num.new.Fits := ⟨by decide, by decide⟩
theorem Num.Fits.add {n : Num} (h : n.Fits) (d : Nat) : (n.add d).v < 18446744073709551616 := by
 unfold Num.add
 split
 ·exact h.v
 ·exact Nat.mod_lt _ (by decide)
theorem Num.Fits.step {n : Num} (h : n.Fits) (b : UInt8) : (n.step b).1.Fits ∧ (n.step b).2.2 < 256 := by
 unfold Num.step
 repeat' split
 ·exact ⟨h, h.e⟩
 ·exact ⟨⟨h.add _, h.e⟩, Nat.le_of_ble_eq_true rfl⟩
 ·exact ⟨⟨h.v, h.e⟩, Nat.le_of_ble_eq_true rfl⟩
 ·exact ⟨⟨h.v, Nat.le_of_ble_eq_true rfl⟩, Nat.le_of_ble_eq_true rfl⟩
 ·exact ⟨⟨h.v, Nat.le_of_ble_eq_true rfl⟩, Nat.le_of_ble_eq_true rfl⟩
 ·exact ⟨h, Nat.le_of_ble_eq_true rfl⟩
theorem Num.Fits.fin {n : Num} (h : n.Fits) : n.fin.2.1 < 18446744073709551616 ∧ n.fin.2.2 < 256 := by
 unfold Num.fin
 repeat' split
 ·exact ⟨by show 0 < 18446744073709551616; decide, h.e⟩
 ·exact ⟨by show 0 < 18446744073709551616; decide, by show 2 < 256; decide⟩
 ·exact ⟨by show 0 < 18446744073709551616; decide, by show 7 < 256; decide⟩
 ·exact ⟨Nat.mod_lt _ (by decide), by show 0 < 256; decide⟩
 ·exact ⟨h.v, by show 0 < 256; decide⟩
structure Tok where
 kind : UInt8
 text : List UInt8
 neg : Bool
 mag : Nat
structure Lex where
 state : Nat
 r : Esc.Rdr
 s : List UInt8
 n : Num
 rest : List UInt8
 kind : UInt8
 e : Nat
def Lex.new : Lex := ⟨0, Esc.Rdr.zero, [], Num.new, [], 0, 0⟩
def isBlank (b : UInt8) : Bool := b == 32 || b == 9 || b == 10 || b == 13
def isMark (b : UInt8) : Bool := b == 123 || b == 125 || b == 91 || b == 93 || b == 58 || b == 44
def Lex.between (l : Lex) (b : UInt8) : Lex × List Tok :=
 if isBlank b = true then (l, [])
 else if isMark b = true then (l, [⟨b, [], false, 0⟩])
 else if b = 34 then (⟨1, Esc.Rdr.zero, [], l.n, l.rest, l.kind, l.e⟩, [])
 else if b = 45 ∨ isDigit b = true then (⟨2, l.r, l.s, (Num.new.step b).1, l.rest, l.kind, (Num.new.step b).2.2⟩, [])
 else if b = 116 then (⟨3, l.r, l.s, l.n, [114, 117, 101], 116, l.e⟩, [])
 else if b = 102 then (⟨3, l.r, l.s, l.n, [97, 108, 115, 101], 102, l.e⟩, [])
 else if b = 110 then (⟨3, l.r, l.s, l.n, [117, 108, 108], 48, l.e⟩, [])
 else (⟨l.state, l.r, l.s, l.n, l.rest, l.kind, 2⟩, [])
def Lex.text (l : Lex) (b : UInt8) : Lex × List Tok :=
 if b = 34 ∧ l.r.whole = true then (⟨0, l.r, l.s, l.n, l.rest, l.kind, l.e⟩, [⟨115, l.s, false, 0⟩])
 else (⟨l.state, (l.r.step b).1, l.s ++ (l.r.step b).2.1, l.n, l.rest, l.kind,
   if (l.r.step b).2.2 = 0 ∧ 200 < (l.s ++ (l.r.step b).2.1).length then 5 else (l.r.step b).2.2⟩, [])
def Lex.word (l : Lex) (b : UInt8) : Lex × List Tok :=
 match l.rest with
 | [] => (⟨l.state, l.r, l.s, l.n, l.rest, l.kind, 2⟩, [])
 | c :: r =>
  if c ≠ b then (⟨l.state, l.r, l.s, l.n, l.rest, l.kind, 2⟩, [])
  else if r = [] then (⟨0, l.r, l.s, l.n, r, l.kind, l.e⟩, [⟨l.kind, [], false, 0⟩])
  else (⟨l.state, l.r, l.s, l.n, r, l.kind, l.e⟩, [])
def Lex.ended (l : Lex) : Lex × List Tok :=
 if l.n.fin.2.2 ≠ 0 then (⟨l.state, l.r, l.s, l.n, l.rest, l.kind, l.n.fin.2.2⟩, [])
 else (⟨0, l.r, l.s, l.n, l.rest, l.kind, 0⟩, [⟨110, [], l.n.fin.1, l.n.fin.2.1⟩])
def Lex.number (l : Lex) (b : UInt8) : Lex × List Tok :=
 if (l.n.step b).2.1 = true ∨ (l.n.step b).2.2 ≠ 0 then (⟨l.state, l.r, l.s, (l.n.step b).1, l.rest, l.kind, (l.n.step b).2.2⟩, [])
 else
  let m : Lex := ⟨l.state, l.r, l.s, (l.n.step b).1, l.rest, l.kind, 0⟩
  if m.ended.1.e ≠ 0 then (m.ended.1, [])
  else ((m.ended.1.between b).1, m.ended.2 ++ (m.ended.1.between b).2)
def Lex.act (l : Lex) (b : UInt8) : Lex × List Tok :=
 if l.state = 1 then l.text b else if l.state = 3 then l.word b else if l.state = 2 then l.number b else l.between b
def Lex.step (l : Lex) (b : UInt8) : Lex × List Tok × Nat :=
 if l.e ≠ 0 then (l, [], l.e)
 else if (l.act b).1.e ≠ 0 then ((l.act b).1, [], (l.act b).1.e)
 else ((l.act b).1, (l.act b).2, 0)
def Lex.fin (l : Lex) : Lex × List Tok × Nat :=
 if l.e ≠ 0 ∨ l.state = 0 then (l, [], l.e)
 else if l.state = 2 then (l.ended.1, l.ended.2, l.ended.1.e)
 else (⟨l.state, l.r, l.s, l.n, l.rest, l.kind, 3⟩, [], 3)
def Lex.held (l : Lex) : Nat := if l.e ≠ 0 ∨ l.state ≠ 1 then 0 else l.s.length
def rests : List (List UInt8) := [[], [114, 117, 101], [117, 101], [101], [97, 108, 115, 101], [108, 115, 101], [115, 101], [117, 108, 108], [108, 108], [108]]
structure Lex.Fits (l : Lex) : Prop where
 state : l.state ≤ 3
 r : l.r.Fits
 n : l.n.Fits
 rest : l.rest ∈ rests
 s : l.s.length ≤ 300
 small : l.e = 0 → l.s.length ≤ 200
 e : l.e < 256
theorem Esc_zero_fits : Esc.Rdr.zero.Fits := ⟨by decide, by decide, by decide, by decide, by decide, by decide, by decide⟩
theorem Lex.Fits.new : Lex.new.Fits := ⟨by decide, Esc_zero_fits, Num.Fits.new, by decide, by decide, fun _ => by decide, by decide⟩
structure Jin where
 l : Lex
 depth : Nat
 maps : List Bool
 next : Nat
 e : Nat
def Jin.new (d : Nat) : Jin := ⟨Lex.new, d, [], 0, 0⟩
def behind (maps : List Bool) : Nat := if maps.length = 0 then 6 else 5
def Jin.value (p : Jin) (t : Tok) : Jin × Option Part :=
 if t.kind = 91 ∨ t.kind = 123 then
  if p.maps.length = p.depth then (⟨p.l, p.depth, p.maps, p.next, 4⟩, none)
  else (⟨p.l, p.depth, p.maps ++ [t.kind == 123], if t.kind = 123 then 2 else 1, p.e⟩, some (.begins (t.kind == 123) (-1)))
 else if t.kind = 115 then (⟨p.l, p.depth, p.maps, behind p.maps, p.e⟩, some (.word ⟨t.text.toArray⟩))
 else if t.kind = 110 then (⟨p.l, p.depth, p.maps, behind p.maps, p.e⟩, some (.whole t.neg t.mag))
 else if t.kind = 116 ∨ t.kind = 102 then (⟨p.l, p.depth, p.maps, behind p.maps, p.e⟩, some (.bool (t.kind == 116)))
 else if t.kind = 48 then (⟨p.l, p.depth, p.maps, behind p.maps, p.e⟩, some .null)
 else (⟨p.l, p.depth, p.maps, p.next, 2⟩, none)
def Jin.token (p : Jin) (t : Tok) : Jin × Option Part :=
 if t.kind = 58 ∧ p.next = 4 then (⟨p.l, p.depth, p.maps, 0, p.e⟩, none)
 else if t.kind = 44 ∧ p.next = 5 then (⟨p.l, p.depth, p.maps, if p.maps.getLast? = some true then 3 else 0, p.e⟩, none)
 else if (t.kind = 93 ∧ p.maps.getLast? = some false ∧ (p.next = 1 ∨ p.next = 5)) ∨ (t.kind = 125 ∧ p.maps.getLast? = some true ∧ (p.next = 2 ∨ p.next = 5)) then
  (⟨p.l, p.depth, p.maps.dropLast, behind p.maps.dropLast, p.e⟩, some .close)
 else if t.kind = 115 ∧ (p.next = 3 ∨ p.next = 2) then (⟨p.l, p.depth, p.maps, 4, p.e⟩, some (.word ⟨t.text.toArray⟩))
 else if p.next ≠ 0 ∧ p.next ≠ 1 then (⟨p.l, p.depth, p.maps, p.next, 2⟩, none)
 else p.value t
def Jin.parts : Jin → List Tok → Nat → Jin × List Part × Nat
 | p, [], e => (⟨p.l, p.depth, p.maps, p.next, e⟩, [], e)
 | p, t :: l, e =>
  if (p.token t).1.e ≠ 0 then ((p.token t).1, [], (p.token t).1.e)
  else (((p.token t).1.parts l e).1, (p.token t).2.toList ++ ((p.token t).1.parts l e).2.1, ((p.token t).1.parts l e).2.2)
def Jin.on (p : Jin) (l : Lex) : Jin := ⟨l, p.depth, p.maps, p.next, p.e⟩
def Jin.step (p : Jin) (b : UInt8) : Jin × List Part × Nat :=
 if p.e ≠ 0 then (p, [], p.e) else (p.on (p.l.step b).1).parts (p.l.step b).2.1 (p.l.step b).2.2
def Jin.fin (p : Jin) : Jin × List Part × Nat :=
 if p.e ≠ 0 then (p, [], p.e)
 else
  let o := (p.on p.l.fin.1).parts p.l.fin.2.1 p.l.fin.2.2
  if o.2.2 = 0 ∧ o.1.next ≠ 6 then (⟨o.1.l, o.1.depth, o.1.maps, o.1.next, 3⟩, o.2.1, 3) else (o.1, o.2.1, o.1.e)
def Jin.held (p : Jin) : Nat := if p.e ≠ 0 then 0 else p.l.held + p.maps.length
structure Hd where
 begun : Bool
 fin : Bool
 opened : Bool
 major : Nat
 lack : Nat
 v : Nat
 e : Nat
def Hd.new : Hd := ⟨false, false, false, 0, 0, 0, 0⟩
def Hd.step (h : Hd) (b : UInt8) : Hd × Bool × Nat :=
 if h.e ≠ 0 then (h, false, h.e)
 else if h.fin = true then (⟨h.begun, h.fin, h.opened, h.major, h.lack, h.v, 14⟩, false, 14)
 else if h.begun = true then (⟨h.begun, decide (h.lack = 1), h.opened, h.major, h.lack - 1, (h.v * 256 + b.toNat) % 18446744073709551616, h.e⟩, decide (h.lack = 1), 0)
 else if b.toNat % 32 < 24 then (⟨true, true, h.opened, b.toNat / 32, h.lack, b.toNat % 32, h.e⟩, true, 0)
 else if b.toNat % 32 < 28 then (⟨true, h.fin, h.opened, b.toNat / 32, 2 ^ (b.toNat % 32 - 24), h.v, h.e⟩, h.fin, 0)
 else if b.toNat % 32 = 31 then (⟨true, true, true, b.toNat / 32, h.lack, h.v, h.e⟩, true, 0)
 else (⟨true, h.fin, h.opened, b.toNat / 32, h.lack, h.v, 2⟩, h.fin, 2)
def big (v n : Nat) : List UInt8 := (List.range n).map fun i => UInt8.ofNat (v / 256 ^ (n - 1 - i))
def put (major v : Nat) : List UInt8 :=
 if v < 24 then big (major % 8 * 32 + v) 1
 else if v < 256 then big (major % 8 * 32 + 24) 1 ++ big v 1
 else if v < 65536 then big (major % 8 * 32 + 25) 1 ++ big v 2
 else if v < 4294967296 then big (major % 8 * 32 + 26) 1 ++ big v 4
 else big (major % 8 * 32 + 27) 1 ++ big v 8
structure Crt where
 pairs : Bool
 count : Int
 parts : Nat
def Crt.between (c : Crt) : Bool := c.pairs && decide (c.parts % 2 = 1)
def Crt.full (c : Crt) : Bool := if c.pairs then !c.between && ((c.parts / 2 : Nat) : Int) == c.count else (c.parts : Int) == c.count
structure Cw where
 opened : List Crt
 done : Bool
def Cw.new : Cw := ⟨[], false⟩
def bytesOf (s : ByteArray) : List UInt8 := s.data.toList
def cborPlain : Part → List UInt8
 | .bool true => [245]
 | .bool false => [244]
 | .whole true m => put 1 m
 | .whole false m => put 0 m
 | .word s => put 3 s.size ++ bytesOf s
 | .blob s => put 2 s.size ++ bytesOf s
 | _ => [246]
def Cw.cborClose (w : Cw) : List UInt8 × Nat × Cw :=
 match w.opened.getLast? with
 | none => ([], 14, w)
 | some c =>
  if c.between = true ∨ (0 ≤ c.count ∧ c.full = false) then ([], 14, w)
  else (if c.count < 0 then [255] else [], 0, ⟨w.opened.dropLast, decide (w.opened.length = 1)⟩)
def Cw.bumped (w : Cw) : List Crt :=
 match w.opened.getLast? with
 | none => []
 | some c => w.opened.dropLast ++ [⟨c.pairs, c.count, c.parts + 1⟩]
def Cw.cborOn (w : Cw) (p : Part) : List UInt8 × Nat × Cw :=
 match p with
 | .begins m c => (if c < 0 then [if m then 191 else 159] else put (if m then 5 else 4) c.toNat, 0, ⟨w.bumped ++ [⟨m, c, 0⟩], false⟩)
 | p => (cborPlain p, 0, ⟨w.bumped, decide (w.opened = [])⟩)
def Cw.may (w : Cw) (p : Part) : Nat :=
 match w.opened.getLast? with
 | none => 0
 | some c => if c.full = true then 14 else if c.pairs = true ∧ c.between = false ∧ p.isWord = false then 8 else 0
def Cw.cbor (w : Cw) (p : Part) : List UInt8 × Nat × Cw :=
 if p.may = false ∨ w.done = true then ([], 14, w)
 else match p with
  | .close => w.cborClose
  | p => if w.may p ≠ 0 then ([], w.may p, w) else w.cborOn p
end Pip
end Go.Proofs.YthnbpnfaghjamaaGreat

/- The pipe in plain Lean, the rest: readers of items with lengths, the writer of MessagePack, the stage, the way through, what is said. No program in sight. -/
namespace Go.Proofs.YthnbpnfaghjamaaGreat
namespace Pip
open Json (Part Wr)
structure Core where
 depth : Nat
 opened : List Crt
 done : Bool
 e : Nat
 word : Bool
 chunks : Bool
 lack : Nat
 s : List UInt8
 c : Esc.Chk
def Chk_zero : Esc.Chk := ⟨0, 0, 0, false⟩
def Core.new (d : Nat) : Core := ⟨d, [], false, 0, false, false, 0, [], Chk_zero⟩
def Core.fail (c : Core) (e : Nat) : Core × List Part := (⟨c.depth, c.opened, c.done, e, c.word, c.chunks, c.lack, c.s, c.c⟩, [])
def Core.atKey (c : Core) : Bool :=
 match c.opened.getLast? with
 | none => false
 | some t => t.pairs && decide (t.parts % 2 = 0)
def Core.full (c : Core) : Bool := decide (c.depth ≤ c.opened.length)
def Crt.fits (c : Crt) : Bool := if c.pairs then decide (c.parts % 2 = 0) && ((c.parts / 2 : Nat) : Int) == c.count else (c.parts : Int) == c.count
def up : List Crt → List Crt × Nat
 | [] => ([], 0)
 | c :: r => if (Crt.mk c.pairs c.count (c.parts + 1)).fits = true then ((up r).1, (up r).2 + 1) else (⟨c.pairs, c.count, c.parts + 1⟩ :: r, 0)
def Core.value (c : Core) (v : Part) : Core × List Part :=
 (⟨c.depth, (up c.opened.reverse).1.reverse, c.done || (up c.opened.reverse).1.isEmpty, c.e, c.word, c.chunks, c.lack, c.s, c.c⟩, v :: List.replicate (up c.opened.reverse).2 Part.close)
def Core.begin (c : Core) (pairs : Bool) (count : Int) : Core × List Part :=
 if count = 0 then ((c.value .close).1, .begins pairs 0 :: (c.value .close).2)
 else (⟨c.depth, c.opened ++ [⟨pairs, count, 0⟩], c.done, c.e, c.word, c.chunks, c.lack, c.s, c.c⟩, [.begins pairs count])
def Core.break (c : Core) : Core × List Part :=
 match c.opened.getLast? with
 | none => c.fail 2
 | some t =>
  if 0 ≤ t.count ∨ (t.pairs = true ∧ t.parts % 2 = 1) then c.fail 2
  else (Core.mk c.depth c.opened.dropLast c.done c.e c.word c.chunks c.lack c.s c.c).value .close
def Core.text (c : Core) : Core × List Part :=
 (Core.mk c.depth c.opened c.done c.e c.word false c.lack [] c.c).value (if c.word then .word ⟨c.s.toArray⟩ else .blob ⟨c.s.toArray⟩)
def Core.length (c : Core) (word : Bool) (n : Nat) : Core × List Part :=
 if 200 - c.s.length < n then c.fail 5
 else
  let d : Core := ⟨c.depth, c.opened, c.done, c.e, word, c.chunks, n, c.s, Chk_zero⟩
  if 0 < n ∨ c.chunks = true then (d, []) else d.text
def Core.chk (c : Core) (b : UInt8) : Esc.Chk := if c.word then (c.c.step b).1 else c.c
def Core.fed (c : Core) (b : UInt8) : Core := ⟨c.depth, c.opened, c.done, c.e, c.word, c.chunks, c.lack - 1, c.s ++ [b], c.chk b⟩
def Core.byte (c : Core) (b : UInt8) : Core × List Part :=
 if c.word = true ∧ ((c.c.step b).2 = false ∨ (c.lack = 1 ∧ (c.chk b).whole = false)) then (c.fed b).fail 9
 else if 1 < c.lack ∨ c.chunks = true then (c.fed b, []) else (c.fed b).text
def Core.over (c : Core) : Nat := if c.e = 0 ∧ c.done = false then 3 else c.e
def Core.held (c : Core) : Nat := if c.e ≠ 0 then 0 else c.s.length + c.opened.length
structure Cin where
 c : Core
 h : Hd
 begun : Bool
def Cin.new (d : Nat) : Cin := ⟨Core.new d, Hd.new, false⟩
def Cin.on (p : Cin) (o : Core × List Part) : Cin × List Part := (⟨o.1, p.h, p.begun⟩, o.2)
def Cin.behind (p : Cin) (major v : Nat) (without : Bool) : Cin × List Part :=
 if major = 0 ∨ major = 1 then p.on (p.c.value (.whole (decide (major = 1)) v))
 else if major = 2 ∨ major = 3 then
  if without = true then (⟨⟨p.c.depth, p.c.opened, p.c.done, p.c.e, decide (major = 3), true, p.c.lack, p.c.s, p.c.c⟩, p.h, p.begun⟩, [])
  else p.on (p.c.length (decide (major = 3)) v)
 else if without = true then p.on (p.c.begin (decide (major = 5)) (-1))
 else if 1000000 < v then p.on (p.c.fail 7)
 else p.on (p.c.begin (decide (major = 5)) v)
def Cin.head (p : Cin) (b : UInt8) : Cin × List Part :=
 let o := p.h.step b
 let q : Cin := ⟨p.c, o.1, !o.2.1⟩
 if o.2.2 ≠ 0 then q.on (q.c.fail o.2.2)
 else if o.2.1 = false then (q, [])
 else (Cin.mk p.c Hd.new false).behind o.1.major o.1.v o.1.opened
def Cin.simple (p : Cin) (low : Nat) : Cin × List Part :=
 if low = 20 ∨ low = 21 then p.on (p.c.value (.bool (decide (low = 21))))
 else if low = 22 then p.on (p.c.value .null)
 else if low = 25 ∨ low = 26 ∨ low = 27 then p.on (p.c.fail 6)
 else p.on (p.c.fail 8)
def Cin.chunk (p : Cin) (b : UInt8) : Cin × List Part :=
 if b = 255 then p.on p.c.text
 else if b.toNat / 32 ≠ (if p.c.word then 3 else 2) ∨ b.toNat % 32 = 31 then p.on (p.c.fail 2)
 else p.head b
def Cin.item (p : Cin) (b : UInt8) : Cin × List Part :=
 let major := b.toNat / 32
 let low := b.toNat % 32
 if p.c.done = true then p.on (p.c.fail 2)
 else if (28 ≤ low ∧ low < 31) ∨ (low = 31 ∧ (major ≤ 1 ∨ major = 6)) then p.on (p.c.fail 2)
 else if b = 255 then p.on p.c.break
 else if (p.c.atKey = true ∧ major ≠ 3) ∨ major = 6 then p.on (p.c.fail 8)
 else if major = 7 then p.simple low
 else if (major = 4 ∨ major = 5) ∧ p.c.full = true then p.on (p.c.fail 4)
 else p.head b
def Cin.act (p : Cin) (b : UInt8) : Cin × List Part :=
 if 0 < p.c.lack then p.on (p.c.byte b)
 else if p.begun = true then p.head b
 else if p.c.chunks = true then p.chunk b
 else p.item b
def Cin.step (p : Cin) (b : UInt8) : Cin × List Part × Nat :=
 if p.c.e ≠ 0 then (p, [], p.c.e) else ((p.act b).1, (p.act b).2, (p.act b).1.c.e)
structure Pin where
 c : Core
 kind : Nat
 lack : Nat
 all : Nat
 v : Nat
def Pin.new (d : Nat) : Pin := ⟨Core.new d, 0, 0, 0, 0⟩
def Pin.on (p : Pin) (o : Core × List Part) : Pin × List Part := (⟨o.1, p.kind, p.lack, p.all, p.v⟩, o.2)
def Pin.count (p : Pin) (pairs : Bool) (n : Nat) : Pin × List Part :=
 if 1000000 < n then p.on (p.c.fail 7) else p.on (p.c.begin pairs n)
def signed (v all : Nat) : Bool × Nat :=
 if v < 2 ^ (8 * all - 1) then (false, v) else (true, 2 ^ (8 * all) - 1 - v)
def Pin.behind (p : Pin) (kind v : Nat) : Pin × List Part :=
 if kind = 1 then p.on (p.c.value (.whole false v))
 else if kind = 2 then p.on (p.c.value (.whole (signed v p.all).1 (signed v p.all).2))
 else if kind = 3 ∨ kind = 4 then p.on (p.c.length (decide (kind = 4)) v)
 else p.count (decide (kind = 6)) v
def Pin.number (p : Pin) (b : UInt8) : Pin × List Part :=
 let v := (p.v * 256 + b.toNat) % 18446744073709551616
 if 1 < p.lack then (⟨p.c, p.kind, p.lack - 1, p.all, v⟩, [])
 else (Pin.mk p.c 0 (p.lack - 1) p.all v).behind p.kind v
def Pin.follows (p : Pin) (kind n : Nat) : Pin × List Part := (⟨p.c, kind, n, n, 0⟩, [])
def isText (b : UInt8) : Bool := decide (b.toNat / 32 = 5) || (decide (217 ≤ b.toNat) && decide (b.toNat ≤ 219))
def isContainer (b : UInt8) : Bool := (decide (128 ≤ b.toNat) && decide (b.toNat ≤ 159)) || (decide (220 ≤ b.toNat) && decide (b.toNat ≤ 223))
def Pin.long (p : Pin) (b : UInt8) : Pin × List Part :=
 if b.toNat ≤ 198 then p.follows 3 (2 ^ (b.toNat - 196))
 else if b.toNat ≤ 207 then p.follows 1 (2 ^ (b.toNat - 204))
 else if b.toNat ≤ 211 then p.follows 2 (2 ^ (b.toNat - 208))
 else if b.toNat ≤ 219 then p.follows 4 (2 ^ (b.toNat - 217))
 else if b.toNat ≤ 221 then p.follows 5 (2 * 2 ^ (b.toNat - 220))
 else p.follows 6 (2 * 2 ^ (b.toNat - 222))
def Pin.item (p : Pin) (b : UInt8) : Pin × List Part :=
 let n := b.toNat
 if p.c.done = true ∨ n = 193 then p.on (p.c.fail 2)
 else if p.c.atKey = true ∧ isText b = false then p.on (p.c.fail 8)
 else if (199 ≤ n ∧ n ≤ 201) ∨ (212 ≤ n ∧ n ≤ 216) then p.on (p.c.fail 8)
 else if n = 202 ∨ n = 203 then p.on (p.c.fail 6)
 else if isContainer b = true ∧ p.c.full = true then p.on (p.c.fail 4)
 else if n < 128 then p.on (p.c.value (.whole false n))
 else if 224 ≤ n then p.on (p.c.value (.whole true (255 - n)))
 else if n < 160 then p.count (decide (n < 144)) (n % 16)
 else if n < 192 then p.on (p.c.length true (n % 32))
 else if n = 192 then p.on (p.c.value .null)
 else if n ≤ 195 then p.on (p.c.value (.bool (decide (n = 195))))
 else p.long b
def Pin.act (p : Pin) (b : UInt8) : Pin × List Part :=
 if 0 < p.c.lack then p.on (p.c.byte b) else if p.kind ≠ 0 then p.number b else p.item b
def Pin.step (p : Pin) (b : UInt8) : Pin × List Part × Nat :=
 if p.c.e ≠ 0 then (p, [], p.c.e) else ((p.act b).1, (p.act b).2, (p.act b).1.c.e)
def sized (first v : Nat) : List Nat → Nat → List UInt8
 | [], _ => []
 | n :: l, i => if n = 8 ∨ v < 2 ^ (8 * n) then big (first + i) 1 ++ big v n else sized first v l (i + 1)
def packBelow (m : Nat) : List UInt8 × Nat :=
 if 9223372036854775807 < m then ([], 7)
 else if m < 32 then (big (18446744073709551615 - m) 1, 0)
 else if m < 128 then (big 208 1 ++ big (18446744073709551615 - m) 1, 0)
 else if m < 32768 then (big 209 1 ++ big (18446744073709551615 - m) 2, 0)
 else if m < 2147483648 then (big 210 1 ++ big (18446744073709551615 - m) 4, 0)
 else (211 :: big (18446744073709551615 - m) 8, 0)
def packBegin (map : Bool) (c : Int) : List UInt8 × Nat :=
 if c < 0 ∨ 4294967295 < c then ([], 7)
 else if c < 16 then (big ((if map then 128 else 144) + c.toNat) 1, 0)
 else (sized (if map then 222 else 220) c.toNat [2, 4] 0, 0)
def packPlain : Part → List UInt8 × Nat
 | .bool true => ([195], 0)
 | .bool false => ([194], 0)
 | .whole true m => packBelow m
 | .whole false m => if m < 128 then (big m 1, 0) else (sized 204 m [1, 2, 4, 8] 0, 0)
 | .word s => if s.size < 32 then (big (160 + s.size) 1 ++ bytesOf s, 0) else (sized 217 s.size [1, 2, 4] 0 ++ bytesOf s, 0)
 | .blob s => (sized 196 s.size [1, 2, 4] 0 ++ bytesOf s, 0)
 | _ => ([192], 0)
def Cw.packClose (w : Cw) : List UInt8 × Nat × Cw :=
 match w.opened.getLast? with
 | none => ([], 14, w)
 | some c => if c.full = false then ([], 14, w) else ([], 0, ⟨w.opened.dropLast, decide (w.opened.length = 1)⟩)
def Cw.packOn (w : Cw) (p : Part) : List UInt8 × Nat × Cw :=
 match p with
 | .begins m c => if (packBegin m c).2 ≠ 0 then ([], (packBegin m c).2, w) else ((packBegin m c).1, 0, ⟨w.bumped ++ [⟨m, c, 0⟩], false⟩)
 | p => if (packPlain p).2 ≠ 0 then ([], (packPlain p).2, w) else ((packPlain p).1, 0, ⟨w.bumped, decide (w.opened = [])⟩)
def Cw.pack (w : Cw) (p : Part) : List UInt8 × Nat × Cw :=
 if p.may = false ∨ w.done = true then ([], 14, w)
 else match p with
  | .close => w.packClose
  | p => if w.may p ≠ 0 then ([], w.may p, w) else w.packOn p
structure Hold where
 place : Nat
 parts : Nat
structure Stg where
 limit : Nat
 held : List Part
 size : Nat
 opened : List Hold
 e : Nat
def Stg.new (n : Nat) : Stg := ⟨n, [], 0, [], 0⟩
def sizeOf : Part → Nat
 | .word s => 1 + s.size
 | .blob s => 1 + s.size
 | _ => 1
def Stg.hold (s : Stg) (v : Part) : Stg × Nat :=
 if s.limit < s.size + sizeOf v then (⟨0, [], 0, [], 10⟩, 10) else (⟨s.limit, s.held ++ [v], s.size + sizeOf v, s.opened, s.e⟩, s.e)
def counted (held : List Part) (c : Hold) : List Part :=
 match held[c.place]? with
 | some (.begins m n) => if n < 0 then held.set c.place (.begins m ((if m then c.parts / 2 else c.parts : Nat) : Int)) else held
 | _ => held
def Stg.close (s : Stg) : Stg × List Part × Nat :=
 match s.opened.getLast? with
 | none => (s, [], 0)
 | some c =>
  let d : Stg := ⟨s.limit, counted s.held c, s.size, s.opened.dropLast, s.e⟩
  if 1 < s.opened.length then ((d.hold .close).1, [], (d.hold .close).2)
  else (⟨s.limit, [], 0, s.opened.dropLast, s.e⟩, counted s.held c ++ [.close], 0)
def Stg.bumped (s : Stg) : List Hold :=
 match s.opened.getLast? with
 | none => []
 | some c => s.opened.dropLast ++ [⟨c.place, c.parts + 1⟩]
def Part_opens : Part → Bool
 | .begins _ c => decide (c < 0)
 | _ => false
def Part_begins : Part → Bool
 | .begins _ _ => true
 | _ => false
def Part_closes : Part → Bool
 | .close => true
 | _ => false
def Stg.step (s : Stg) (v : Part) : Stg × List Part × Nat :=
 if s.e ≠ 0 then (s, [], s.e)
 else if v.may = false then (s, [], 14)
 else if s.opened = [] ∧ Part_opens v = false then (s, [v], 0)
 else if Part_closes v = true then s.close
 else
  let d : Stg := ⟨s.limit, s.held, s.size, s.bumped ++ (if Part_begins v then [⟨s.held.length, 0⟩] else []), s.e⟩
  ((d.hold v).1, [], (d.hold v).2)
structure Setup where
 from_ : Int
 to : Int
 depth : Int
 stage : Int
 limit : Int
def right (s : Setup) : Bool :=
 decide (1 ≤ s.from_) && decide (s.from_ ≤ 3) && decide (1 ≤ s.to) && decide (s.to ≤ 3) && decide (1 ≤ s.depth) && decide (s.depth ≤ 16) && decide (0 ≤ s.stage) && decide (s.stage ≤ 2000) &&
  decide (0 ≤ s.limit) && decide (s.limit ≤ 255)
inductive Reader where
 | json (p : Jin)
 | cbor (p : Cin)
 | pack (p : Pin)
inductive Writer where
 | json (w : Wr)
 | cbor (w : Cw)
 | pack (w : Cw)
def Reader.new (f : Int) (d : Nat) : Reader := if f = 1 then .json (Jin.new d) else if f = 2 then .cbor (Cin.new d) else .pack (Pin.new d)
def Writer.new (f : Int) : Writer := if f = 1 then .json Wr.zero else if f = 2 then .cbor Cw.new else .pack Cw.new
def Reader.step : Reader → UInt8 → Reader × List Part × Nat
 | .json p, b => (.json (p.step b).1, (p.step b).2)
 | .cbor p, b => (.cbor (p.step b).1, (p.step b).2)
 | .pack p, b => (.pack (p.step b).1, (p.step b).2)
def Reader.fin : Reader → Reader × List Part × Nat
 | .json p => (.json p.fin.1, p.fin.2)
 | .cbor p => (.cbor p, [], p.c.over)
 | .pack p => (.pack p, [], p.c.over)
def Reader.held : Reader → Nat
 | .json p => p.held
 | .cbor p => p.c.held
 | .pack p => p.c.held
def Writer.step (text : Part → List UInt8) : Writer → Part → List UInt8 × Nat × Writer
 | .json w, p => ((w.step text p).1, (w.step text p).2.1, .json (w.step text p).2.2)
 | .cbor w, p => ((w.cbor p).1, (w.cbor p).2.1, .cbor (w.cbor p).2.2)
 | .pack w, p => ((w.pack p).1, (w.pack p).2.1, .pack (w.pack p).2.2)
structure Pp where
 input : Reader
 output : Writer
 hold : Option Stg
 over : Bool
 e : Nat
def Pp.new (s : Setup) : Pp := ⟨Reader.new s.from_ s.depth.toNat, Writer.new s.to, if s.to = 3 then some (Stg.new s.stage.toNat) else none, false, 0⟩
def Writer.some (text : Part → List UInt8) : Writer → List Part → List UInt8 × Nat × Writer
 | w, [] => ([], 0, w)
 | w, p :: l =>
  if (w.step text p).2.1 ≠ 0 then ((w.step text p).1, (w.step text p).2.1, (w.step text p).2.2)
  else ((w.step text p).1 ++ ((w.step text p).2.2.some text l).1, ((w.step text p).2.2.some text l).2)
def Pp.one (text : Part → List UInt8) (p : Pp) (v : Part) : Pp × List UInt8 :=
 match p.hold with
 | none => (⟨p.input, (p.output.some text [v]).2.2, none, p.over, (p.output.some text [v]).2.1⟩, (p.output.some text [v]).1)
 | some s =>
  if (s.step v).2.2 ≠ 0 then (⟨p.input, p.output, some (s.step v).1, p.over, (s.step v).2.2⟩, [])
  else (⟨p.input, (p.output.some text (s.step v).2.1).2.2, some (s.step v).1, p.over, (p.output.some text (s.step v).2.1).2.1⟩, (p.output.some text (s.step v).2.1).1)
def Pp.write (text : Part → List UInt8) : Pp → List Part → Nat → Pp × List UInt8 × Nat
 | p, [], e => (⟨p.input, p.output, p.hold, p.over, e⟩, [], e)
 | p, v :: l, e =>
  if (p.one text v).1.e ≠ 0 then ((p.one text v).1, (p.one text v).2, (p.one text v).1.e)
  else (((p.one text v).1.write text l e).1, (p.one text v).2 ++ ((p.one text v).1.write text l e).2.1, ((p.one text v).1.write text l e).2.2)
def Pp.may (p : Pp) : Nat := if p.e ≠ 0 then p.e else if p.over = true then 14 else 0
def Pp.step (text : Part → List UInt8) (p : Pp) (b : UInt8) : Pp × List UInt8 × Nat :=
 if p.may ≠ 0 then (p, [], p.may)
 else (Pp.mk (p.input.step b).1 p.output p.hold p.over p.e).write text (p.input.step b).2.1 (p.input.step b).2.2
def Pp.fin (text : Part → List UInt8) (p : Pp) : Pp × List UInt8 × Nat :=
 if p.may ≠ 0 then (p, [], p.may)
 else (Pp.mk p.input.fin.1 p.output p.hold true p.e).write text p.input.fin.2.1 p.input.fin.2.2
def Pp.held (p : Pp) : Nat := if p.may ≠ 0 then 0 else p.input.held + (match p.hold with | none => 0 | some s => s.size)
def Pp.run (text : Part → List UInt8) : Pp → List UInt8 → Pp × List UInt8 × Nat
 | p, [] => (p, [], 0)
 | p, b :: l =>
  if (p.step text b).2.2 ≠ 0 then ((p.step text b).1, (p.step text b).2.1, (p.step text b).2.2)
  else (((p.step text b).1.run text l).1, (p.step text b).2.1 ++ ((p.step text b).1.run text l).2.1, ((p.step text b).1.run text l).2.2)
def batch (text : Part → List UInt8) (s : Setup) (b : List UInt8) : List UInt8 × Nat :=
 if right s = false then ([], 1)
 else
  let o := (Pp.new s).run text b
  if o.2.2 ≠ 0 then (o.2.1, o.2.2) else (o.2.1 ++ (o.1.fin text).2.1, (o.1.fin text).2.2)
end Pip
end Go.Proofs.YthnbpnfaghjamaaGreat

/- The pipe in plain Lean: what is over stays over; what is written of a beginning; nothing at all. No program in sight. -/
namespace Go.Proofs.YthnbpnfaghjamaaGreat
namespace Pip
open Json (Part Wr)
theorem Pp.step_over (text : Part → List UInt8) (p : Pp) (b : UInt8) (h : p.may ≠ 0) : p.step text b = (p, [], p.may) := by unfold Pp.step; rw [if_pos h]
theorem Pp.may_zero {p : Pp} (h : p.may = 0) : p.e = 0 ∧ p.over = false := by
 unfold Pp.may at h
 split at h
 ·rename_i h1; exact absurd h h1
 ·rename_i h1
  split at h
  ·cases h
  ·rename_i h2; exact ⟨by omega, by simpa using h2⟩
theorem Pp.one_over (text : Part → List UInt8) (p : Pp) (v : Part) : (p.one text v).1.over = p.over ∧ (p.one text v).1.input = p.input := by
 unfold Pp.one
 split
 ·exact ⟨rfl, rfl⟩
 ·split <;> exact ⟨rfl, rfl⟩
theorem Pp.write_e (text : Part → List UInt8) : ∀ (l : List Part) (p : Pp) (e : Nat), (p.write text l e).1.e = (p.write text l e).2.2
 | [], p, e => rfl
 | v :: l, p, e => by
  unfold Pp.write
  split
  ·rfl
  ·exact Pp.write_e text l _ e
theorem Pp.write_over (text : Part → List UInt8) : ∀ (l : List Part) (p : Pp) (e : Nat), (p.write text l e).1.over = p.over ∧ (p.write text l e).1.input = p.input
 | [], p, e => ⟨rfl, rfl⟩
 | v :: l, p, e => by
  have h1 := p.one_over text v
  unfold Pp.write
  split
  ·exact h1
  ·have h2 := Pp.write_over text l (p.one text v).1 e
   exact ⟨h2.1.trans h1.1, h2.2.trans h1.2⟩
theorem Pp.step_may (text : Part → List UInt8) (p : Pp) (b : UInt8) : (p.step text b).1.may = (p.step text b).2.2 := by
 by_cases h : p.may = 0
 ·have ⟨h0, ho⟩ := Pp.may_zero h
  unfold Pp.step
  rw [if_neg (by simp [h])]
  have h1 := Pp.write_e text (p.input.step b).2.1 (Pp.mk (p.input.step b).1 p.output p.hold p.over p.e) (p.input.step b).2.2
  have h2 := (Pp.write_over text (p.input.step b).2.1 (Pp.mk (p.input.step b).1 p.output p.hold p.over p.e) (p.input.step b).2.2).1
  generalize (Pp.mk (p.input.step b).1 p.output p.hold p.over p.e).write text (p.input.step b).2.1 (p.input.step b).2.2 = R at h1 h2
  unfold Pp.may
  rw [h2]
  simp only [ho, Bool.false_eq_true, if_false]
  split
  ·exact h1
  ·rename_i h3; rw [← h1]; omega
 ·rw [Pp.step_over text p b h]
def Pp.all (text : Part → List UInt8) : Pp → List UInt8 → Pp × List UInt8
 | p, [] => (p, [])
 | p, b :: l => (((p.step text b).1.all text l).1, (p.step text b).2.1 ++ ((p.step text b).1.all text l).2)
theorem Pp.all_append (text : Part → List UInt8) : ∀ (a b : List UInt8) (p : Pp), p.all text (a ++ b) = (((p.all text a).1.all text b).1, (p.all text a).2 ++ ((p.all text a).1.all text b).2)
 | [], b, p => by simp [Pp.all]
 | x :: a, b, p => by
  rw [List.cons_append, Pp.all, Pp.all, Pp.all_append text a b]
  simp
theorem Pp.new_may (s : Setup) : (Pp.new s).may = 0 := by
 unfold Pp.may Pp.new
 simp
theorem alive_pack (text : Part → List UInt8) : batch text ⟨1, 3, 2, 9, 0⟩ [91, 49, 93] = ([145, 1], 0) := by rfl
def Reader.depth : Reader → Nat
 | .json p => p.depth
 | .cbor p => p.c.depth
 | .pack p => p.c.depth
end Pip
end Go.Proofs.YthnbpnfaghjamaaGreat

/- A document of one blob, in plain Lean: what readers tell of it, what a pipe answers. No program in sight. -/
namespace Go.Proofs.YthnbpnfaghjamaaGreat
namespace Pip
open Json (Part Wr)
theorem Pp.step_quiet (text : Part → List UInt8) (p : Pp) (x : UInt8) (r : Reader) (h0 : p.may = 0) (h : p.input.step x = (r, [], 0)) : p.step text x = (⟨r, p.output, p.hold, p.over, 0⟩, [], 0) := by
 unfold Pp.step
 rw [if_neg (by simp [h0]), h]
 rfl
def Reader.Quiet : Reader → List UInt8 → Reader → Prop
 | r, [], r' => r = r'
 | r, x :: l, r' => ∃ m, r.step x = (m, [], 0) ∧ Reader.Quiet m l r'
theorem Pp.run_quiet (text : Part → List UInt8) : ∀ (l : List UInt8) (r r' : Reader) (o : Writer) (h : Option Stg) (m : List UInt8), r.Quiet l r' → (Pp.mk r o h false 0).run text (l ++ m) = (Pp.mk r' o h false 0).run text m
 | [], r, r', o, h, m, hq => by rw [show r = r' from hq]; rfl
 | x :: l, r, r', o, h, m, ⟨k, h1, h2⟩ => by
  have hs := Pp.step_quiet text (Pp.mk r o h false 0) x k rfl h1
  rw [List.cons_append, Pp.run, hs, if_neg (by simp)]
  have ih := Pp.run_quiet text l k r' o h m h2
  show (((Pp.mk k o h false 0).run text (l ++ m)).1, [] ++ ((Pp.mk k o h false 0).run text (l ++ m)).2.1, ((Pp.mk k o h false 0).run text (l ++ m)).2.2) = _
  rw [ih]
  rfl
def alone (text : Part → List UInt8) (t : Int) (v : Part) : List UInt8 := if t = 1 then text v else if t = 2 then cborPlain v else (packPlain v).1
theorem some_single (text : Part → List UInt8) (W : Writer) (p : Part) : W.some text [p] = W.step text p := by
 unfold Writer.some
 split
 ·rfl
 ·rename_i h
  have : (W.step text p).2.1 = 0 := by simpa using h
  simp only [Writer.some, List.append_nil]
  rw [← this]
theorem pack_blob (text : Part → List UInt8) (s : ByteArray) : (Writer.new 3).step text (.blob s) = ((packPlain (.blob s)).1, 0, Writer.pack ⟨[], true⟩) := rfl
theorem pack_word (text : Part → List UInt8) (s : ByteArray) : (Writer.new 3).step text (.word s) = ((packPlain (.word s)).1, 0, Writer.pack ⟨[], true⟩) := by
 have h : (packPlain (.word s)).2 = 0 := by unfold packPlain; dsimp only; split <;> rfl
 show ((Cw.new.pack (.word s)).1, (Cw.new.pack (.word s)).2.1, Writer.pack (Cw.new.pack (.word s)).2.2) = _
 have e : Cw.new.pack (.word s) = ((packPlain (.word s)).1, 0, ⟨[], true⟩) := by
  unfold Cw.pack
  rw [if_neg (by simp [Json.Part.may, Cw.new])]
  show (if Cw.new.may (.word s) ≠ 0 then _ else Cw.new.packOn (.word s)) = _
  rw [if_neg (by simp [Cw.may, Cw.new])]
  show (if (packPlain (.word s)).2 ≠ 0 then _ else _) = _
  rw [if_neg (by simp [h])]
  rfl
 rw [e]
theorem batch_one (text : Part → List UInt8) (f t : Int) (d : Nat) (hr : right ⟨f, t, d, 0, 0⟩ = true) (l : List UInt8) (x : UInt8) (r r' : Reader) (v : Part) (hv : (∃ s, v = .blob s) ∨ ∃ s, v = .word s)
  (hq : (Reader.new f d).Quiet l r) (hl : r.step x = (r', [v], 0)) (hf : r'.fin = (r', [], 0)) : batch text ⟨f, t, d, 0, 0⟩ (l ++ [x]) = (alone text t v, 0) := by
 have ht : t = 1 ∨ t = 2 ∨ t = 3 := by
  simp only [right, Bool.and_eq_true, decide_eq_true_eq] at hr
  omega
 unfold batch
 rw [if_neg (by simp [hr])]
 have hrun := Pp.run_quiet text l (Reader.new f d) r (Writer.new t) (if t = 3 then some (Stg.new 0) else none) [x] hq
 have hone : (Pp.mk r (Writer.new t) (if t = 3 then some (Stg.new 0) else none) false 0).run text [x] = ((Pp.mk r' (Writer.new t) (if t = 3 then some (Stg.new 0) else none) false 0).write text [v] 0) ∧
   ∃ o h, (Pp.mk r' (Writer.new t) (if t = 3 then some (Stg.new 0) else none) false 0).write text [v] 0 = (Pp.mk r' o h false 0, alone text t v, 0) := by
  have hw : ∃ o h, (Pp.mk r' (Writer.new t) (if t = 3 then some (Stg.new 0) else none) false 0).write text [v] 0 = (Pp.mk r' o h false 0, alone text t v, 0) := by
   have h1 : ∃ o h, (Pp.mk r' (Writer.new t) (if t = 3 then some (Stg.new 0) else none) false 0).one text v = (Pp.mk r' o h false 0, alone text t v) := by
    rcases hv with ⟨s, rfl⟩ | ⟨s, rfl⟩ <;> rcases ht with rfl | rfl | rfl
    all_goals first
     | exact ⟨_, _, by rw [if_neg (by decide)]; unfold Pp.one; simp only [some_single]; rfl⟩
     | exact ⟨_, _, by rw [if_pos rfl]; unfold Pp.one; simp only; rw [if_neg (by simp [Stg.step, Stg.new, Part_opens, Json.Part.may])]; rw [show ((Stg.new 0).step _).2.1 = [_] from rfl, some_single]; first | rw [pack_blob]; rfl | rw [pack_word]; rfl⟩
   obtain ⟨o, h, h1⟩ := h1
   refine ⟨o, h, ?_⟩
   rw [Pp.write, h1, if_neg (by simp)]
   simp [Pp.write]
  refine ⟨?_, hw⟩
  obtain ⟨o, h, hw⟩ := hw
  have hs : (Pp.mk r (Writer.new t) (if t = 3 then some (Stg.new 0) else none) false 0).step text x = (Pp.mk r' o h false 0, alone text t v, 0) := by
   unfold Pp.step
   rw [if_neg (by simp [Pp.may])]
   show (Pp.mk (r.step x).1 _ _ false 0).write text (r.step x).2.1 (r.step x).2.2 = _
   rw [hl]
   exact hw
  rw [Pp.run, hs, if_neg (by simp), hw]
  simp [Pp.run]
 obtain ⟨h1, o, h, h2⟩ := hone
 have hfin : (Pp.mk r' o h false 0).fin text = (Pp.mk r' o h true 0, [], 0) := by
  unfold Pp.fin
  rw [if_neg (by simp [Pp.may])]
  show (Pp.mk r'.fin.1 o h true 0).write text r'.fin.2.1 r'.fin.2.2 = _
  rw [hf]
  rfl
 have hall : (Pp.new ⟨f, t, d, 0, 0⟩).run text (l ++ [x]) = (Pp.mk r' o h false 0, alone text t v, 0) := by
  show (Pp.mk (Reader.new f d) (Writer.new t) (if t = 3 then some (Stg.new 0) else none) false 0).run text (l ++ [x]) = _
  rw [hrun, h1, h2]
 dsimp only
 rw [hall, if_neg (by simp), hfin]
 simp
end Pip
end Go.Proofs.YthnbpnfaghjamaaGreat

/- A document of one blob of at most 200 bytes, in plain Lean: what a pipe answers (PipeBlobs). No program in sight. -/
namespace Go.Proofs.YthnbpnfaghjamaaGreat
namespace Pip
open Json (Part Wr)
theorem Reader.Quiet.append : ∀ (a b : List UInt8) (r m r' : Reader), r.Quiet a m → m.Quiet b r' → r.Quiet (a ++ b) r'
 | [], _, _, _, _, h, k => by rw [show _ = _ from h]; exact k
 | x :: a, b, r, m, r', ⟨q, h1, h2⟩, k => ⟨q, h1, Reader.Quiet.append a b q m r' h2 k⟩
def blobC (n : Nat) (acc : List UInt8) : Core := ⟨1, [], false, 0, false, false, n, acc, Chk_zero⟩
def blobD : Core := ⟨1, [], true, 0, false, false, 0, [], Chk_zero⟩
theorem blob_more (k : Nat) (acc : List UInt8) (b : UInt8) : (blobC (k + 2) acc).byte b = (blobC (k + 1) (acc ++ [b]), []) := by
 unfold Core.byte
 rw [if_neg (by simp [blobC]), if_pos (by simp [blobC])]
 rfl
theorem blob_last (acc : List UInt8) (b : UInt8) : (blobC 1 acc).byte b = (blobD, [.blob ⟨(acc ++ [b]).toArray⟩]) := by
 unfold Core.byte
 rw [if_neg (by simp [blobC]), if_neg (by simp [blobC])]
 rfl
def cinB (c : Core) : Reader := .cbor ⟨c, Hd.new, false⟩
def pinB (c : Core) (n : Nat) (v : Nat) : Reader := .pack ⟨c, 0, 0, n, v⟩
theorem cin_byte (n : Nat) (acc : List UInt8) (b : UInt8) (c : Core) (l : List Part) (h0 : 0 < n) (h : (blobC n acc).byte b = (c, l)) : (cinB (blobC n acc)).step b = (cinB c, l, c.e) := by
 show (Reader.cbor (Cin.step _ b).1, (Cin.step _ b).2) = _
 unfold Cin.step
 rw [if_neg (by simp [blobC])]
 have ha : (Cin.mk (blobC n acc) Hd.new false).act b = (Cin.mk c Hd.new false, l) := by
  unfold Cin.act
  rw [if_pos (show 0 < (Cin.mk (blobC n acc) Hd.new false).c.lack from h0)]
  show Cin.on _ ((blobC n acc).byte b) = _
  rw [h]
  rfl
 rw [ha]
 rfl
theorem pin_byte (a v n : Nat) (acc : List UInt8) (b : UInt8) (c : Core) (l : List Part) (h0 : 0 < n) (h : (blobC n acc).byte b = (c, l)) : (pinB (blobC n acc) a v).step b = (pinB c a v, l, c.e) := by
 show (Reader.pack (Pin.step _ b).1, (Pin.step _ b).2) = _
 unfold Pin.step
 rw [if_neg (by simp [blobC])]
 have ha : (Pin.mk (blobC n acc) 0 0 a v).act b = (Pin.mk c 0 0 a v, l) := by
  unfold Pin.act
  rw [if_pos (show 0 < (Pin.mk (blobC n acc) 0 0 a v).c.lack from h0)]
  show Pin.on _ ((blobC n acc).byte b) = _
  rw [h]
  rfl
 rw [ha]
 rfl
theorem cin_feed : ∀ (l acc : List UInt8), (cinB (blobC (l.length + 1) acc)).Quiet l (cinB (blobC 1 (acc ++ l)))
 | [], acc => by rw [List.append_nil]; rfl
 | b :: l, acc => ⟨_, cin_byte _ acc b _ _ (by simp) (blob_more l.length acc b), by
  have := cin_feed l (acc ++ [b])
  rwa [List.append_assoc] at this⟩
theorem pin_feed (a v : Nat) : ∀ (l acc : List UInt8), (pinB (blobC (l.length + 1) acc) a v).Quiet l (pinB (blobC 1 (acc ++ l)) a v)
 | [], acc => by rw [List.append_nil]; rfl
 | b :: l, acc => ⟨_, pin_byte a v _ acc b _ _ (by simp) (blob_more l.length acc b), by
  have := pin_feed a v l (acc ++ [b])
  rwa [List.append_assoc] at this⟩
theorem byteN (n : Nat) (h : n < 256) : (UInt8.ofNat n).toNat = n := by rw [UInt8.toNat_ofNat']; omega
theorem cin_head_few (n : Nat) (h0 : 0 < n) (h : n < 24) : (Reader.new 2 1).step (UInt8.ofNat (64 + n)) = (cinB (blobC n []), [], 0) := by
 have hb := byteN (64 + n) (by omega)
 have h1 : (64 + n) / 32 = 2 := by omega
 have h2 : (64 + n) % 32 = n := by omega
 have h3 : UInt8.ofNat (64 + n) ≠ 255 := fun e => by
  have := congrArg UInt8.toNat e
  rw [hb] at this
  have : (255 : UInt8).toNat = 255 := rfl
  omega
 show (Reader.cbor ((Cin.new 1).step _).1, ((Cin.new 1).step _).2) = _
 have ha : (Cin.new 1).act (UInt8.ofNat (64 + n)) = (Cin.mk (blobC n []) Hd.new false, []) := by
  unfold Cin.act
  rw [if_neg (by decide), if_neg (by decide), if_neg (by decide)]
  unfold Cin.item
  simp only [hb, h1, h2]
  rw [if_neg (by decide), if_neg (by omega), if_neg h3, if_neg (by simp [Cin.new, Core.new, Core.atKey]), if_neg (by decide), if_neg (by simp)]
  unfold Cin.head
  have hs : Hd.step (Cin.new 1).h (UInt8.ofNat (64 + n)) = (⟨true, true, false, 2, 0, n, 0⟩, true, 0) := by
   unfold Hd.step
   rw [if_neg (by decide), if_neg (by decide), if_neg (by decide), hb, h1, h2, if_pos h]
   rfl
  simp only [hs]
  rw [if_neg (by decide), if_neg (by decide)]
  unfold Cin.behind
  rw [if_neg (by decide), if_pos (by decide), if_neg (by decide)]
  unfold Core.length
  rw [if_neg (by simp [Cin.new, Core.new]; omega)]
  dsimp only
  rw [if_pos (.inl h0)]
  rfl
 unfold Cin.step
 rw [if_neg (by decide), ha]
 rfl
theorem cin_head_one (n : Nat) (h0 : 0 < n) (h : n ≤ 200) : (Reader.new 2 1).Quiet [88, UInt8.ofNat n] (cinB (blobC n [])) := by
 refine ⟨.cbor ⟨Core.new 1, ⟨true, false, false, 2, 1, 0, 0⟩, true⟩, rfl, cinB (blobC n []), ?_, rfl⟩
 have hb := byteN n (by omega)
 show (Reader.cbor (Cin.step _ _).1, (Cin.step _ _).2) = _
 have ha : (Cin.mk (Core.new 1) ⟨true, false, false, 2, 1, 0, 0⟩ true).act (UInt8.ofNat n) = (Cin.mk (blobC n []) Hd.new false, []) := by
  unfold Cin.act
  rw [if_neg (by decide), if_pos rfl]
  unfold Cin.head
  have hs : Hd.step ⟨true, false, false, 2, 1, 0, 0⟩ (UInt8.ofNat n) = (⟨true, true, false, 2, 0, n, 0⟩, true, 0) := by
   unfold Hd.step
   rw [if_neg (by decide), if_neg (by decide), if_pos rfl, hb]
   show (Hd.mk true true false 2 0 ((0 * 256 + n) % 18446744073709551616) 0, true, 0) = _
   rw [show (0 * 256 + n) % 18446744073709551616 = n by omega]
  simp only [hs]
  rw [if_neg (by decide), if_neg (by decide)]
  unfold Cin.behind
  rw [if_neg (by decide), if_pos (by decide), if_neg (by decide)]
  unfold Core.length
  rw [if_neg (by simp [Core.new]; omega)]
  dsimp only
  rw [if_pos (.inl h0)]
  rfl
 unfold Cin.step
 rw [if_neg (by simp [Core.new]), ha]
 rfl
theorem pin_head_one (n : Nat) (h0 : 0 < n) (h : n ≤ 200) : (Reader.new 3 1).Quiet [196, UInt8.ofNat n] (pinB (blobC n []) 1 n) := by
 refine ⟨.pack ⟨Core.new 1, 3, 1, 1, 0⟩, rfl, pinB (blobC n []) 1 n, ?_, rfl⟩
 have hb := byteN n (by omega)
 show (Reader.pack (Pin.step _ _).1, (Pin.step _ _).2) = _
 have ha : (Pin.mk (Core.new 1) 3 1 1 0).act (UInt8.ofNat n) = (Pin.mk (blobC n []) 0 0 1 n, []) := by
  unfold Pin.act
  rw [if_neg (by simp [Core.new]), if_pos (by simp)]
  unfold Pin.number
  simp only [hb]
  rw [if_neg (by decide), show (0 * 256 + n) % 18446744073709551616 = n by omega]
  unfold Pin.behind
  rw [if_neg (by decide), if_neg (by decide), if_pos (by decide)]
  unfold Core.length
  rw [if_neg (by simp [Core.new]; omega)]
  dsimp only
  rw [if_pos (.inl h0)]
  rfl
 unfold Pin.step
 rw [if_neg (by simp [Core.new]), ha]
 rfl
def blobDoc (f : Int) (l : List UInt8) : List UInt8 := (if f = 2 then put 2 l.length else sized 196 l.length [1, 2, 4] 0) ++ l
theorem big_one (v : Nat) : big v 1 = [UInt8.ofNat v] := by simp [big]
theorem blob_reads (f : Int) (hf : f = 2 ∨ f = 3) (l : List UInt8) (h : l.length ≤ 200) :
  ∃ (d : List UInt8) (x : UInt8) (q r' : Reader), blobDoc f l = d ++ [x] ∧ (Reader.new f 1).Quiet d q ∧ q.step x = (r', [.blob ⟨l.toArray⟩], 0) ∧ r'.fin = (r', [], 0) := by
 rcases List.eq_nil_or_concat l with rfl | ⟨m, x, rfl⟩
 ·rcases hf with rfl | rfl
  ·exact ⟨[], 64, _, cinB blobD, rfl, rfl, rfl, rfl⟩
  ·exact ⟨[196], 0, _, pinB blobD 1 0, rfl, ⟨_, rfl, rfl⟩, rfl, rfl⟩
 ·rw [List.concat_eq_append] at *
  rw [List.length_append, List.length_singleton] at h
  rcases hf with rfl | rfl
  ·have hd : ∃ hd, blobDoc 2 (m ++ [x]) = hd ++ m ++ [x] ∧ (Reader.new 2 1).Quiet hd (cinB (blobC (m.length + 1) [])) := by
    unfold blobDoc
    rw [if_pos rfl, List.length_append, List.length_singleton]
    by_cases h24 : m.length + 1 < 24
    ·refine ⟨[UInt8.ofNat (64 + (m.length + 1))], ?_, _, cin_head_few (m.length + 1) (by omega) h24, rfl⟩
     unfold put
     rw [if_pos h24, big_one]
     simp
    ·refine ⟨[88, UInt8.ofNat (m.length + 1)], ?_, cin_head_one (m.length + 1) (by omega) (by omega)⟩
     unfold put
     rw [if_neg h24, if_pos (by omega), big_one, big_one]
     simp
   obtain ⟨hd, e, hq⟩ := hd
   exact ⟨hd ++ m, x, cinB (blobC 1 m), cinB blobD, e, hq.append _ _ _ _ _ (cin_feed m []), cin_byte 1 m x _ _ (by decide) (blob_last m x), rfl⟩
  ·have hd : blobDoc 3 (m ++ [x]) = [196, UInt8.ofNat (m.length + 1)] ++ m ++ [x] := by
    unfold blobDoc
    rw [if_neg (by decide), List.length_append, List.length_singleton]
    unfold sized
    rw [if_pos (.inr (by simp; omega)), big_one, big_one]
    simp
   exact ⟨[196, UInt8.ofNat (m.length + 1)] ++ m, x, pinB (blobC 1 m) 1 (m.length + 1), pinB blobD 1 (m.length + 1), hd, (pin_head_one (m.length + 1) (by omega) (by omega)).append _ _ _ _ _ (pin_feed _ _ m []), pin_byte _ _ 1 m x _ _ (by decide) (blob_last m x), rfl⟩
theorem blob_doc_len (f : Int) (_hf : f = 2 ∨ f = 3) (l : List UInt8) (h : l.length ≤ 200) : (blobDoc f l).length ≤ 300 := by
 have hb : ∀ v n, (big v n).length = n := fun v n => by simp [big]
 unfold blobDoc
 rw [List.length_append]
 have h1 : (put 2 l.length).length ≤ 10 := by
  unfold put
  repeat' split
  all_goals simp only [List.length_append, hb]; omega
 have h2 : (sized 196 l.length [1, 2, 4] 0).length ≤ 10 := by
  simp only [sized]
  repeat' split
  all_goals simp [hb]
 split <;> omega
theorem blob_batch (text : Part → List UInt8) (f t : Int) (hf : f = 2 ∨ f = 3) (ht : t = 1 ∨ t = 2 ∨ t = 3) (l : List UInt8) (h : l.length ≤ 200) :
  batch text ⟨f, t, 1, 0, 0⟩ (blobDoc f l) = (alone text t (.blob ⟨l.toArray⟩), 0) := by
 have hr : right ⟨f, t, 1, 0, 0⟩ = true := by
  rcases hf with rfl | rfl <;> rcases ht with rfl | rfl | rfl <;> decide
 obtain ⟨d, x, q, r', e, h1, h2, h3⟩ := blob_reads f hf l h
 rw [e]
 exact batch_one text f t 1 hr d x q r' _ (.inl ⟨_, rfl⟩) h1 h2 h3
end Pip
end Go.Proofs.YthnbpnfaghjamaaGreat

/- What is said at the beginning of a session, in plain Lean: a setup as bytes, and back. No program in sight. -/
namespace Go.Proofs.YthnbpnfaghjamaaGreat
namespace Pip
def Setup.zero : Setup := ⟨0, 0, 0, 0, 0⟩
def byteOf (x : Int) : UInt8 := UInt8.ofNat x.toNat
def helloBytes (s : Setup) : List UInt8 := [84, 82, byteOf s.from_, byteOf s.to, byteOf s.depth, UInt8.ofNat (s.stage.toNat / 256), UInt8.ofNat s.stage.toNat, byteOf s.limit]
def atInt (b : List UInt8) (i : Nat) : Int := ((b.getD i 0).toNat : Int)
def helloRead (b : List UInt8) : Setup := ⟨atInt b 2, atInt b 3, atInt b 4, atInt b 5 * 256 + atInt b 6, atInt b 7⟩
def helloGet (b : List UInt8) : Setup × Nat :=
 if b.take 2 ≠ [84, 82].take b.length then (Setup.zero, 2)
 else if b.length < 8 then (Setup.zero, 3)
 else if right (helloRead b) = true then (helloRead b, 0) else (Setup.zero, 2)
theorem right_iff (s : Setup) : right s = true ↔ 1 ≤ s.from_ ∧ s.from_ ≤ 3 ∧ 1 ≤ s.to ∧ s.to ≤ 3 ∧ 1 ≤ s.depth ∧ s.depth ≤ 16 ∧ 0 ≤ s.stage ∧ s.stage ≤ 2000 ∧ 0 ≤ s.limit ∧ s.limit ≤ 255 := by
 unfold right
 simp only [Bool.and_eq_true, decide_eq_true_eq, and_assoc]
end Pip
end Go.Proofs.YthnbpnfaghjamaaGreat
