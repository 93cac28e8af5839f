/- Parts of a document, and what a writer of JSON does with them, in plain Lean. No program in sight. -/
import Derived.Test.YtopaadmnlghdaaaDoorOwn
namespace Go.Proofs.YtopaadmnlghdaaaDoor
namespace Json

/-- A part, or no part at all. -/
inductive Part where
  | null
  | bool (b : Bool)
  | whole (neg : Bool) (mag : Nat)
  | word (s : ByteArray)
  | blob (s : ByteArray)
  | begins (map : Bool) (count : Int)
  | close
  | other (b : Bool)

/-- Is it a part? (A count below -1 is none.) -/
def Part.may : Part → Bool
  | .begins _ c => decide (-1 ≤ c)
  | .other _ => false
  | _ => true

/-- A part with all its fields, as it is handed in. -/
structure Evt where
  kind : Int
  yes : Bool
  mag : Nat
  text : ByteArray
  count : Int

/-- The part, if it is one. -/
def Evt.part (e : Evt) : Option Part :=
  if e.kind = 0 then some .null
  else if e.kind = 1 then some (.bool e.yes)
  else if e.kind = 2 then some (.whole e.yes e.mag)
  else if e.kind = 3 then some (.word e.text)
  else if e.kind = 4 then some (.blob e.text)
  else if e.kind = 5 then (if e.count < -1 then none else some (.begins false e.count))
  else if e.kind = 6 then (if e.count < -1 then none else some (.begins true e.count))
  else if e.kind = 7 then some .close
  else none

def Evt.zero : Evt := ⟨0, false, 0, ⟨#[]⟩, 0⟩

/-- The part as it is handed back. -/
def Part.evt : Part → Evt
  | .null => ⟨0, false, 0, ⟨#[]⟩, 0⟩
  | .bool b => ⟨1, b, 0, ⟨#[]⟩, 0⟩
  | .whole n m => ⟨2, n, m, ⟨#[]⟩, 0⟩
  | .word s => ⟨3, false, 0, s, 0⟩
  | .blob s => ⟨4, false, 0, s, 0⟩
  | .begins m c => ⟨if m then 6 else 5, false, 0, ⟨#[]⟩, c⟩
  | .close => ⟨7, false, 0, ⟨#[]⟩, 0⟩
  | .other _ => Evt.zero

theorem Evt.part_may (e : Evt) (p : Part) (h : e.part = some p) : p.may = true := by
  unfold Evt.part at h
  repeat' split at h
  all_goals first | (injection h with h; subst h; first | rfl | (simp [Part.may]; omega)) | cases h

def Part.isWord : Part → Bool
  | .word _ => true
  | _ => false

/-- A container that is open. -/
structure Box where
  pairs : Bool
  parts : Nat

def Box.between (c : Box) : Bool := c.pairs && decide (c.parts % 2 = 1)

/-- A writer: the containers that are open, the last one innermost; whether the document is at its end. -/
structure Wr where
  opened : List Box
  done : Bool

def Wr.zero : Wr := ⟨[], false⟩

/-- What stands ahead of a part. -/
def Box.ahead (c : Box) : List UInt8 := if c.between then [58] else if 0 < c.parts then [44] else []

/-- A part is taken; text: what it is where it is no container. Its bytes, the error (0: none), the writer behind it. -/
def Wr.step (text : Part → List UInt8) (w : Wr) (p : Part) : List UInt8 × Nat × Wr :=
  if !p.may || w.done then ([], 14, w)
  else
    match p with
    | .close =>
      match w.opened.getLast? with
      | none => ([], 14, w)
      | some c => if c.between then ([], 14, w) else ([if c.pairs then 125 else 93], 0, ⟨w.opened.dropLast, decide (w.opened.length = 1)⟩)
    | p =>
      match w.opened.getLast? with
      | none =>
        match p with
        | .begins m _ => ([if m then 123 else 91], 0, ⟨[⟨m, 0⟩], false⟩)
        | p => (text p, 0, ⟨[], true⟩)
      | some c =>
        if c.pairs && !c.between && !p.isWord then ([], 8, w)
        else
          let l := w.opened.dropLast ++ [⟨c.pairs, c.parts + 1⟩]
          match p with
          | .begins m _ => (c.ahead ++ [if m then 123 else 91], 0, ⟨l ++ [⟨m, 0⟩], false⟩)
          | p => (c.ahead ++ text p, 0, ⟨l, false⟩)

theorem Wr.step_none (text : Part → List UInt8) (w : Wr) (p : Part) (h : p.may = false) : w.step text p = ([], 14, w) := by
  unfold Wr.step
  rw [h]
  rfl

theorem Wr.step_done (text : Part → List UInt8) (w : Wr) (p : Part) (h : w.done = true) : w.step text p = ([], 14, w) := by
  unfold Wr.step
  rw [h]
  simp

/-- What is refused changes nothing. -/
theorem Wr.step_refused (text : Part → List UInt8) (w : Wr) (p : Part) (h : (w.step text p).2.1 ≠ 0) : (w.step text p).1 = [] ∧ (w.step text p).2.2 = w := by
  unfold Wr.step at *
  split
  · exact ⟨rfl, rfl⟩
  · rename_i h0
    rw [if_neg h0] at h
    cases p with
    | close =>
      dsimp only at *
      split
      · exact ⟨rfl, rfl⟩
      · rename_i c hc
        rw [hc] at h
        dsimp only at h
        split
        · exact ⟨rfl, rfl⟩
        · rename_i h1; rw [if_neg h1] at h; exact absurd rfl h
    | other b => simp [Part.may] at h0
    | _ =>
      dsimp only at *
      split
      · rename_i hc; rw [hc] at h; exact absurd rfl h
      · rename_i c hc
        rw [hc] at h
        dsimp only at h
        split
        · exact ⟨rfl, rfl⟩
        · rename_i h1; rw [if_neg h1] at h; exact absurd rfl h
end Json
end Go.Proofs.YtopaadmnlghdaaaDoor
