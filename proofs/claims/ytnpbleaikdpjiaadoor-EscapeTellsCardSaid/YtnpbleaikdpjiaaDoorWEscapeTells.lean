/- EscapeTells: the walk, whole. -/
import Derived.Test.YtnpbleaikdpjiaaDoorEscTellsW
import Derived.Test.YtnpbleaikdpjiaaDoorRefIn
namespace Go.Proofs.YtnpbleaikdpjiaaDoor.escapeTells
open Go.RowKit

theorem walk (a0 a1 : ByteArray) (_w0 : a0.size ≤ maxLen) (_w1 : a1.size ≤ maxLen) (w : World) (hT : Lib.Utf8Tabs 0 1 w) :
    Calls Tryd.prog 3 #[.string a0, .string a1] w fun e w' => e = .returned (.bool true) ∧ Below w.heap.size w w' :=
  walk_of (fun s w h => Ref.inside_any s w h) a0 a1 w hT
end Go.Proofs.YtnpbleaikdpjiaaDoor.escapeTells
