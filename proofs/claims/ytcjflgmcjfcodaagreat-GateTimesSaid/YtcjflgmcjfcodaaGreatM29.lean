/- Texts of the walk, joined. -/
import Derived.Test.YtcjflgmcjfcodaaGreatM04
import Derived.Test.YtcjflgmcjfcodaaGreatM11
import Derived.Deep.QuietTactic
import Derived.Lib.Hide
import Derived.WalkKit
import Derived.WalkSpells
set_option maxRecDepth 100000
set_option maxHeartbeats 8000000
namespace Go.Proofs.Tryz end Go.Proofs.Tryz
namespace Go.Proofs.YtcjflgmcjfcodaaGreat
open Go.Proofs.Tryz
section
open Go.RowKit
namespace Pip
def Setup.val (s:Setup):Value:=.agg #[.int .i64 s.from_,.int .i64 s.to,.int .i64 s.depth,.int .i64 s.stage,.int .i64 s.limit]
theorem nM (s:Setup) (w:World):Calls prog 19 #[s.val] w fun e w'=>e = .returned (.bool (right s)) /\ Below w.heap.size w w':=by
 have B0:=hhh (fun o=>(Below.refl w.heap.size w).alloc (Nat.le_refl _) o);have HR:=hhh (fT s);generalize right s=r at HR |-;obtain ⟨f,t,d,g,l⟩:=s;unfold Setup.val;simp only at HR |-;have yes:∀ P:Prop,(r=true ↔ P) -> P -> Ending.returned (.bool true) = .returned (.bool r):=fun P h p=>by rw [h.2 p]
 have no:∀ P:Prop,(r=true ↔ P) -> ¬ P -> Ending.returned (.bool false) = .returned (.bool r):=fun P h p=>by
  cases r with
  | false=>rfl
  | true=>exact absurd (h.1 rfl) p
 have Yes:=hhh yes;have No:=hhh no;clear yes no;go_enter func19,ntmps19;go_wp2
 all_goals go_ret
 all_goals
  refine ⟨?_,B0.o _⟩
  first
  | exact No.o _ HR.o (by omega)
  | exact Yes.o _ HR.o (by omega)
  | (have h:=HR.o;refine congrArg (fun z=>Ending.returned (.bool z)) ?_;rw [Bool.eq_iff_iff,h,decide_eq_true_eq];omega)
end Pip
end
end Go.Proofs.YtcjflgmcjfcodaaGreat
