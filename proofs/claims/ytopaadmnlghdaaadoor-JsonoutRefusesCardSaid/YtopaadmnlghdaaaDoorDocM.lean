/- truchmanbook.Doc's 'item': all of it, by induction on how much deeper it may go. -/
import Derived.Test.YtopaadmnlghdaaaDoorDocJ
import Derived.Test.YtopaadmnlghdaaaDoorDocK
import Derived.Test.YtopaadmnlghdaaaDoorDocL
namespace Go.Proofs.YtopaadmnlghdaaaDoor
open Go.RowKit
namespace Json

theorem item_does (l : List Int) (B : Nat) : ∀ f, ItemDoes l B f := by
  intro f
  induction f with
  | zero =>
    intro nb db ib ab lb ob D d depth v k es ov ho w hD hdd h10 h hk hes
    subst hD
    have hd : d = depth := by omega
    rcases (show num l k % 8 = 0 ∨ num l k % 8 = 1 ∨ (num l k % 8 = 2 ∨ num l k % 8 = 3) ∨ num l k % 8 = 4 ∨ num l k % 8 = 5 ∨ (num l k % 8 = 6 ∨ num l k % 8 = 7) by omega) with hx | hx | hx | hx | hx | hx
    · have hit : item l 0 k = ([Evt.zero], k + 1) := by rw [item]; (try dsimp only); rw [if_pos hx]
      rw [hit]
      exact item_leaf0 l B nb db ib ab lb ob d depth v k es ov ho w h.ab_le h.nums h.has h.sl (by omega) (by omega) hx
    · have hit : item l 0 k = ([⟨1, decide (num l k / 8 % 2 = 1), 0, ⟨#[]⟩, 0⟩], k + 1) := by rw [item]; (try dsimp only); rw [if_neg (by omega), if_pos hx]
      rw [hit]
      exact item_leaf1 l B nb db ib ab lb ob d depth v k es ov ho w h.ab_le h.nums h.has h.sl (by omega) (by omega) hx _ rfl
    · have hit : item l 0 k = ([⟨2, decide (num l k / 8 % 2 = 1), num l k * num l k / 2 ^ (num l k % 8), ⟨#[]⟩, 0⟩], k + 1) := by rw [item]; (try dsimp only); rw [if_neg (by omega), if_neg (by omega), if_pos (by omega)]
      rw [hit]
      exact item_leaf2 l B nb db ib ab lb ob d depth v k es ov ho w h.ab_le h.nums h.has h.sl (by omega) (by omega) hx
    · have hit : item l 0 k = ([⟨3, false, 0, ⟨(textOf (num l k)).toArray⟩, 0⟩], k + 1) := by rw [item]; (try dsimp only); rw [if_neg (by omega), if_neg (by omega), if_neg (by omega), if_pos hx]
      rw [hit]
      exact item_leaf4 l B nb db ib ab lb ob d depth v k es ov ho w h.ab_le h.nums h.has h.sl (by omega) (by omega) hx
    · have hit : item l 0 k = ([⟨3, false, 0, ⟨#[]⟩, 0⟩], k + 1) := by rw [item]; (try dsimp only); rw [if_neg (by omega), if_neg (by omega), if_neg (by omega), if_neg (by omega), if_pos hx]
      rw [hit]
      exact item_leaf5 l B nb db ib ab lb ob d depth v k es ov ho w h.ab_le h.nums h.has h.sl (by omega) (by omega) hx hd
    · have hit : item l 0 k = ([⟨2, false, num l k, ⟨#[]⟩, 0⟩], k + 1) := by rw [item]; (try dsimp only); rw [if_neg (by omega), if_neg (by omega), if_neg (by omega), if_neg (by omega), if_neg (by omega)]
      rw [hit]
      exact item_leaf6 l B nb db ib ab lb ob d depth v k es ov ho w h.ab_le h.nums h.has h.sl (by omega) (by omega) hx hd
  | succ f ih =>
    intro nb db ib ab lb ob D d depth v k es ov ho w hD hdd h10 h hk hes
    subst hD
    have hp : 0 < 3 ^ (f + 1) := Nat.pow_pos (by omega)
    rcases (show num l k % 8 = 0 ∨ num l k % 8 = 1 ∨ (num l k % 8 = 2 ∨ num l k % 8 = 3) ∨ num l k % 8 = 4 ∨ num l k % 8 = 5 ∨ (num l k % 8 = 6 ∨ num l k % 8 = 7) by omega) with hx | hx | hx | hx | hx | hx
    · have hit : item l (f + 1) k = ([Evt.zero], k + 1) := by rw [item]; (try dsimp only); rw [if_pos hx]
      rw [hit]
      exact item_leaf0 l B nb db ib ab lb ob d depth v k es ov ho w h.ab_le h.nums h.has h.sl (by omega) (by omega) hx
    · have hit : item l (f + 1) k = ([⟨1, decide (num l k / 8 % 2 = 1), 0, ⟨#[]⟩, 0⟩], k + 1) := by rw [item]; (try dsimp only); rw [if_neg (by omega), if_pos hx]
      rw [hit]
      exact item_leaf1 l B nb db ib ab lb ob d depth v k es ov ho w h.ab_le h.nums h.has h.sl (by omega) (by omega) hx _ rfl
    · have hit : item l (f + 1) k = ([⟨2, decide (num l k / 8 % 2 = 1), num l k * num l k / 2 ^ (num l k % 8), ⟨#[]⟩, 0⟩], k + 1) := by rw [item]; (try dsimp only); rw [if_neg (by omega), if_neg (by omega), if_pos (by omega)]
      rw [hit]
      exact item_leaf2 l B nb db ib ab lb ob d depth v k es ov ho w h.ab_le h.nums h.has h.sl (by omega) (by omega) hx
    · have hit : item l (f + 1) k = ([⟨3, false, 0, ⟨(textOf (num l k)).toArray⟩, 0⟩], k + 1) := by rw [item]; (try dsimp only); rw [if_neg (by omega), if_neg (by omega), if_neg (by omega), if_pos hx]
      rw [hit]
      exact item_leaf4 l B nb db ib ab lb ob d depth v k es ov ho w h.ab_le h.nums h.has h.sl (by omega) (by omega) hx
    · exact item_array l B f ih nb db ib ab lb ob d depth v k es ov ho w hdd h10 h hk hes hx
    · exact item_map l B f ih nb db ib ab lb ob d depth v k es ov ho w hdd h10 h hk hes hx
end Json
end Go.Proofs.YtopaadmnlghdaaaDoor
