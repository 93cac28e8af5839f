/- Texts of the walk, joined. -/
import Derived.Test.YtnnkkgglfajmhaaGreatM00
import Derived.Test.YtnnkkgglfajmhaaGreatM03
import Derived.Test.YtnnkkgglfajmhaaGreatM08
import Derived.BigQuiet
import Derived.Deep.QuietTactic
import Derived.Lib.Hide
import Derived.Test.YtnnkkgglfajmhaaGreatRows
import Derived.WalkKit
import Derived.WalkLawsBesides
import Derived.WalkSpells
set_option maxRecDepth 100000
set_option maxHeartbeats 8000000
namespace Go.Proofs.YtnnkkgglfajmhaaGreat
section
open Go.RowKit
namespace Esc
def Chk.enc (c : Chk) : List Value := [.int .i64 c.lack, .int .u8 c.low.toNat, .int .u8 c.high.toNat, .bool c.bad]
def Rdr.enc (r : Rdr) : List Value := r.c.enc ++ [.int .i64 r.state, .int .i64 r.r, .int .i64 r.n, .int .i64 r.pair, .int .i64 r.e]
section
variable (w : World) (b : Nat) (T : TypeId) (pre post : List Value)
theorem start_any (c : Chk) (x : UInt8) (h : At.Is w b T pre c.enc post) :
  Calls Tryz.prog 117 #[.pointer (some ⟨b, pre.length, none⟩), .int .u8 x.toNat] w fun e w' => e = .returned (.bool (c.start x).2) ∧ At.Is w' b T pre (c.start x).1.enc post ∧ At.Only b w w' := by
 have c0 := h.cell0 _ rfl
 have c1 := h.cell 1 _ rfl
 have c2 := h.cell 2 _ rfl
 have f0 := h.free pre.length
 have f1 := h.free (pre.length + 1)
 have f2 := h.free (pre.length + 2)
 have H := hhh h
 clear h
 rcases (show (x.toNat < 128) ∨ (194 ≤ x.toNat ∧ x.toNat ≤ 223) ∨ (x.toNat = 224) ∨ (225 ≤ x.toNat ∧ x.toNat ≤ 236) ∨ (x.toNat = 237) ∨ (238 ≤ x.toNat ∧ x.toNat ≤ 239) ∨ (x.toNat = 240) ∨ (241 ≤ x.toNat ∧ x.toNat ≤ 243) ∨ (x.toNat = 244) ∨ ((128 ≤ x.toNat ∧ x.toNat ≤ 193) ∨ 245 ≤ x.toNat) by omega) with h1 | ⟨h1, h2⟩ | h1 | ⟨h1, h2⟩ | h1 | ⟨h1, h2⟩ | h1 | ⟨h1, h2⟩ | h1 | h1
 ·have hst : c.start x = (⟨c.lack, 128, 191, c.bad⟩, true) := by
   unfold Chk.start
   repeat (first | rw [if_pos (by omega)] | rw [if_neg (by omega)])
  rw [hst]
  have HST := hhh hst
  clear hst HST
  go_enter Tryz.func117, Tryz.ntmps117
  go_wp2
  go_ret
  refine ⟨rfl, ?_, (((At.Only.refl b w).set _ _).set _ _)⟩
  have hfin := ((H.out.set 1 (.int .u8 128) (nlb rfl)).set 2 (.int .u8 191) (nlb rfl))
  exact hfin
 ·have hst : c.start x = (⟨1, 128, 191, c.bad⟩, true) := by
   unfold Chk.start
   repeat (first | rw [if_pos (by omega)] | rw [if_neg (by omega)])
  rw [hst]
  have HST := hhh hst
  clear hst HST
  go_enter Tryz.func117, Tryz.ntmps117
  go_wp2
  go_ret
  refine ⟨rfl, ?_, ((((At.Only.refl b w).set _ _).set _ _).set _ _)⟩
  have hfin := (((H.out.set 1 (.int .u8 128) (nlb rfl)).set 2 (.int .u8 191) (nlb rfl)).set0 (.int .i64 1) (nlb rfl))
  exact hfin
 ·have hst : c.start x = (⟨2, 160, 191, c.bad⟩, true) := by
   unfold Chk.start
   repeat (first | rw [if_pos (by omega)] | rw [if_neg (by omega)])
  rw [hst]
  have HST := hhh hst
  clear hst HST
  go_enter Tryz.func117, Tryz.ntmps117
  go_wp2
  go_ret
  refine ⟨rfl, ?_, (((((At.Only.refl b w).set _ _).set _ _).set _ _).set _ _)⟩
  have hfin := ((((H.out.set 1 (.int .u8 128) (nlb rfl)).set 2 (.int .u8 191) (nlb rfl)).set0 (.int .i64 2) (nlb rfl)).set 1 (.int .u8 160) (nlb rfl))
  exact hfin
 ·have hst : c.start x = (⟨2, 128, 191, c.bad⟩, true) := by
   unfold Chk.start
   repeat (first | rw [if_pos (by omega)] | rw [if_neg (by omega)])
  rw [hst]
  have HST := hhh hst
  clear hst HST
  go_enter Tryz.func117, Tryz.ntmps117
  go_wp2
  go_ret
  refine ⟨rfl, ?_, ((((At.Only.refl b w).set _ _).set _ _).set _ _)⟩
  have hfin := (((H.out.set 1 (.int .u8 128) (nlb rfl)).set 2 (.int .u8 191) (nlb rfl)).set0 (.int .i64 2) (nlb rfl))
  exact hfin
 ·have hst : c.start x = (⟨2, 128, 159, c.bad⟩, true) := by
   unfold Chk.start
   repeat (first | rw [if_pos (by omega)] | rw [if_neg (by omega)])
  rw [hst]
  have HST := hhh hst
  clear hst HST
  go_enter Tryz.func117, Tryz.ntmps117
  go_wp2
  go_ret
  refine ⟨rfl, ?_, (((((At.Only.refl b w).set _ _).set _ _).set _ _).set _ _)⟩
  have hfin := ((((H.out.set 1 (.int .u8 128) (nlb rfl)).set 2 (.int .u8 191) (nlb rfl)).set0 (.int .i64 2) (nlb rfl)).set 2 (.int .u8 159) (nlb rfl))
  exact hfin
 ·have hst : c.start x = (⟨2, 128, 191, c.bad⟩, true) := by
   unfold Chk.start
   repeat (first | rw [if_pos (by omega)] | rw [if_neg (by omega)])
  rw [hst]
  have HST := hhh hst
  clear hst HST
  go_enter Tryz.func117, Tryz.ntmps117
  go_wp2
  go_ret
  refine ⟨rfl, ?_, ((((At.Only.refl b w).set _ _).set _ _).set _ _)⟩
  have hfin := (((H.out.set 1 (.int .u8 128) (nlb rfl)).set 2 (.int .u8 191) (nlb rfl)).set0 (.int .i64 2) (nlb rfl))
  exact hfin
 ·have hst : c.start x = (⟨3, 144, 191, c.bad⟩, true) := by
   unfold Chk.start
   repeat (first | rw [if_pos (by omega)] | rw [if_neg (by omega)])
  rw [hst]
  have HST := hhh hst
  clear hst HST
  go_enter Tryz.func117, Tryz.ntmps117
  go_wp2
  go_ret
  refine ⟨rfl, ?_, (((((At.Only.refl b w).set _ _).set _ _).set _ _).set _ _)⟩
  have hfin := ((((H.out.set 1 (.int .u8 128) (nlb rfl)).set 2 (.int .u8 191) (nlb rfl)).set0 (.int .i64 3) (nlb rfl)).set 1 (.int .u8 144) (nlb rfl))
  exact hfin
 ·have hst : c.start x = (⟨3, 128, 191, c.bad⟩, true) := by
   unfold Chk.start
   repeat (first | rw [if_pos (by omega)] | rw [if_neg (by omega)])
  rw [hst]
  have HST := hhh hst
  clear hst HST
  go_enter Tryz.func117, Tryz.ntmps117
  go_wp2
  go_ret
  refine ⟨rfl, ?_, ((((At.Only.refl b w).set _ _).set _ _).set _ _)⟩
  have hfin := (((H.out.set 1 (.int .u8 128) (nlb rfl)).set 2 (.int .u8 191) (nlb rfl)).set0 (.int .i64 3) (nlb rfl))
  exact hfin
 ·have hst : c.start x = (⟨3, 128, 143, c.bad⟩, true) := by
   unfold Chk.start
   repeat (first | rw [if_pos (by omega)] | rw [if_neg (by omega)])
  rw [hst]
  have HST := hhh hst
  clear hst HST
  go_enter Tryz.func117, Tryz.ntmps117
  go_wp2
  go_ret
  refine ⟨rfl, ?_, (((((At.Only.refl b w).set _ _).set _ _).set _ _).set _ _)⟩
  have hfin := ((((H.out.set 1 (.int .u8 128) (nlb rfl)).set 2 (.int .u8 191) (nlb rfl)).set0 (.int .i64 3) (nlb rfl)).set 2 (.int .u8 143) (nlb rfl))
  exact hfin
 ·have hst : c.start x = (⟨c.lack, 128, 191, c.bad⟩, false) := by
   unfold Chk.start
   repeat (first | rw [if_pos (by omega)] | rw [if_neg (by omega)])
  rw [hst]
  have HST := hhh hst
  clear hst HST
  rcases h1 with ⟨h1, h2⟩ | h1
  all_goals
   go_enter Tryz.func117, Tryz.ntmps117
   go_wp2
   go_ret
   refine ⟨rfl, ?_, (((At.Only.refl b w).set _ _).set _ _)⟩
   have hfin := ((H.out.set 1 (.int .u8 128) (nlb rfl)).set 2 (.int .u8 191) (nlb rfl))
   exact hfin
end
end Esc
end
end Go.Proofs.YtnnkkgglfajmhaaGreat
