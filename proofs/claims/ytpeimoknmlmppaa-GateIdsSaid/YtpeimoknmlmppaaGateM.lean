/- Sessions and a gateway in plain Lean: what is asked of them before anything is negotiated. No program in sight. -/
import Derived.Test.YtpeimoknmlmppaaPurseM
import Derived.Test.YtpeimoknmlmppaaRingM
namespace Go.Proofs.Ytpeimoknmlmppaa
open Go.RowKit
namespace Gate

/-- A session that has not negotiated. -/
structure Se where
  inb : List UInt8
  out : List UInt8
  half : Bool
  ended : Bool
  e : Nat

def Se.new : Se := ⟨[], [], false, false, 0⟩

structure Se.Fits (s : Se) : Prop where
  inb : s.inb.length ≤ 64
  out : s.out.length ≤ 64

def Se.charge (s : Se) : Nat := s.inb.length + s.out.length + (if s.ended then 0 else 2)

def chargeO : Option Se → Nat
  | none => 0
  | some s => s.charge

/-- How many of b's bytes are taken, with so much room at the gateway. -/
def Se.takes (s : Se) (b : List UInt8) (room : Nat) : Nat := if s.half || s.ended then 0 else min (min b.length room) (64 - s.inb.length)
def Se.feed (s : Se) (b : List UInt8) (room : Nat) : Se := { s with inb := s.inb ++ b.take (s.takes b room) }

def Se.stop (s : Se) (e : Nat) : Se := if s.ended then s else { s with inb := [], out := s.out ++ [78, UInt8.ofNat e], ended := true, e := e }
def Se.write (s : Se) (k : Nat) : Se := { s with out := s.out.drop k }
def Se.closed (s : Se) : Bool := s.ended && s.out.isEmpty

end Gate
end Go.Proofs.Ytpeimoknmlmppaa
