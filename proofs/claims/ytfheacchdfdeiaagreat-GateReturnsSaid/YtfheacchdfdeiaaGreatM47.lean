/- Texts of the walk, joined. -/
import Derived.Test.YtfheacchdfdeiaaGreatM45
import Derived.Test.YtfheacchdfdeiaaGreatM46
set_option maxRecDepth 100000
set_option maxHeartbeats 8000000
namespace Go.Proofs.YtfheacchdfdeiaaGreat
section
open Go.RowKit
namespace Gate
open Gr
structure aJw (text:Json.Part -> List UInt8) (b:List UInt8) (n:Nat) (r:Nat -> Nat) (g:Ga):Prop where
 num:g.n=n
 at_:∀ j,j < n -> g.slots[j]? = some (some (Ses.rst text b (r j)))
 ids:∀ j,j < n -> g.ids[j]? = some (j + n * j)
section
variable {text:Json.Part -> List UInt8} {b:List UInt8} {n m:Nat} {r:Nat -> Nat} {g:Ga}
end
end Gate
end
end Go.Proofs.YtfheacchdfdeiaaGreat
