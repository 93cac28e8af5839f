/- Which slot an id has. -/
import Derived.Test.YtpeimoknmlmppaaGateS
namespace Go.Proofs.Ytpeimoknmlmppaa
open Go.RowKit
namespace Gate
section
variable {l : Lay} {g : Ga} {w : World}

theorem rem_nat (a l : Nat) : ((a : Int)).tmod (l : Int) = ((a % l : Nat) : Int) := by
  rw [Int.tmod_eq_emod_of_nonneg (by omega), Int.natCast_emod]

/-- The slot of an id that is live. -/
def Ga.find (g : Ga) (id : Int) : Option Nat :=
  if id < 0 then none
  else
    let i := id.toNat % g.n
    match g.slots[i]? with
    | some (some _) => if g.ids[i]? = some id.toNat then some i else none
    | _ => none

def ofOut (l : Lay) (o : Option Nat) : Ending :=
  match o with
  | none => .returned (.tuple #[.pointer none, .int .i64 0])
  | some i => .returned (.tuple #[(l.vs[i]?).getD undef, .int .i64 (i : Int)])

set_option maxRecDepth 100000 in
set_option maxHeartbeats 1000000 in
theorem of_any (k : l.Good g) (h : Own.Has w (l.heap g)) (id : Int) (h0 : 0 < g.n) :
    Calls Try.prog 28 #[.pointer (some ⟨l.gb, 0, none⟩), .int .i64 id] w fun e w' => e = ofOut l (g.find id) ∧ w' = w := by
  have c0 := cell h 0 _ rfl
  have c1 := cell h 1 _ rfl
  have h8 := k.small
  by_cases hneg : id < 0
  · have HF := Lib.hid (show g.find id = none by unfold Ga.find; rw [if_pos hneg])
    clear h k
    go_enter Try.func28, Try.ntmps28
    go_wp2
    go_ret2
    rw [HF.out]
    exact ⟨rfl, rfl⟩
  · obtain ⟨a, rfl⟩ : ∃ a : Nat, id = (a : Int) := ⟨id.toNat, by omega⟩
    obtain ⟨i, hi⟩ : ∃ i, i = a % g.n := ⟨_, rfl⟩
    have hil : i < g.n := by rw [hi]; exact Nat.mod_lt _ h0
    have hrem := rem_nat a g.n
    have hrem' : (a : Int) % (g.n : Int) = (i : Int) := by rw [hi, Int.natCast_emod]
    rw [← hi] at hrem
    have hI : (i : Int) < (g.n : Int) := by omega
    have hiv : i < l.vs.length := by rw [k.vlen]; exact hil
    have hii : i < g.ids.length := by rw [k.ids]; exact hil
    have cs := cellS h i _ (List.getElem?_eq_getElem hiv)
    have ci := cellI h i hii
    have hsl : i < g.slots.length := by rw [k.len]; exact hil
    cases hs : g.slots[i]'hsl with
    | none =>
      have hs' : g.slots[i]? = some none := by rw [List.getElem?_eq_getElem hsl, hs]
      obtain ⟨hv, _⟩ := k.slots.none_at i hs'
      rw [List.getElem?_eq_getElem hiv] at hv
      rw [Option.some.inj hv] at cs
      have HF := Lib.hid (show g.find (a : Int) = none by unfold Ga.find; rw [if_neg hneg]; simp only [Int.toNat_natCast, ← hi, hs'])
      have Hid := Lib.hid (And.intro h8 (And.intro h0 (And.intro hi hsl)))
      clear h k hs hs' hv hi hneg hsl h8
      go_enter Try.func28, Try.ntmps28
      go_wp2
      go_ret2
      rw [HF.out]
      exact ⟨rfl, rfl⟩
    | some s =>
      have hs' : g.slots[i]? = some (some s) := by rw [List.getElem?_eq_getElem hsl, hs]
      obtain ⟨b, _, _, _, hv, _⟩ := k.slots.some_at i s hs'
      have HV := Lib.hid hv
      rw [List.getElem?_eq_getElem hiv] at hv
      rw [Option.some.inj hv] at cs
      obtain ⟨y, hy⟩ : ∃ y, y = g.ids[i]'hii := ⟨_, rfl⟩
      rw [← hy] at ci
      have hyi : g.ids[i]? = some y := by rw [List.getElem?_eq_getElem hii, hy]
      by_cases hya : y = a
      · have ht : ((y : Int) == (a : Int)) = true := by rw [hya]; simp
        have HF := Lib.hid (show g.find (a : Int) = some i by unfold Ga.find; rw [if_neg hneg]; simp only [Int.toNat_natCast, ← hi, hs', hyi, hya]; rw [if_pos trivial])
        have Hid := Lib.hid (And.intro h8 (And.intro h0 (And.intro hi (And.intro hsl hya))))
        clear h k hs hs' hv hi hneg hsl h8 hy hyi hya
        go_enter Try.func28, Try.ntmps28
        go_wp2
        go_ret2
        rw [HF.out]
        exact ⟨by simp only [ofOut, HV.out]; rfl, rfl⟩
      · have ht : ((y : Int) == (a : Int)) = false := by rw [beq_eq_false_iff_ne]; omega
        have HF := Lib.hid (show g.find (a : Int) = none by unfold Ga.find; rw [if_neg hneg]; simp only [Int.toNat_natCast, ← hi, hs', hyi]; rw [if_neg (by intro e; exact hya (Option.some.inj e))])
        have Hid := Lib.hid (And.intro h8 (And.intro h0 (And.intro hi (And.intro hsl hya))))
        clear h k hs hs' hv hi hneg hsl h8 hy hyi hya
        go_enter Try.func28, Try.ntmps28
        go_wp2
        go_ret2
        rw [HF.out]
        exact ⟨rfl, rfl⟩
end
end Gate
end Go.Proofs.Ytpeimoknmlmppaa
