/- Texts of the walk, joined. -/
import Derived.Test.YthnbpnfaghjamaaGreatM44
import Derived.Test.YthnbpnfaghjamaaGreatM46
/- hello.Put of whatever setup. -/
namespace Go.Proofs.YthnbpnfaghjamaaGreat
open Go.RowKit
namespace Pip
def putBytes (s : Setup) : ByteArray := if right s = true then ⟨(helloBytes s).toArray⟩ else ⟨#[]⟩
theorem hput_all (s : Setup) (w : World) : Calls Tryz.prog 26 #[s.val] w fun e w' => e = .returned (.tuple #[.string (putBytes s), .bool (right s)]) ∧ Below w.heap.size w w' := by
 unfold putBytes
 cases h : right s with
 | true => rw [if_pos rfl]; exact hput_any s h w
 | false => rw [if_neg (by decide)]; exact hput_none s h w
theorem putBytes_right {s : Setup} (h : right s = true) : putBytes s = ⟨(helloBytes s).toArray⟩ := if_pos h
end Pip
end Go.Proofs.YthnbpnfaghjamaaGreat
