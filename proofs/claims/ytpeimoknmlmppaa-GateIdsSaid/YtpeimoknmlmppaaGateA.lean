/- What a gateway tells of a session's charge, of all; bytes that come. -/
import Derived.Test.YtpeimoknmlmppaaGateO
namespace Go.Proofs.Ytpeimoknmlmppaa
open Go.RowKit
namespace Gate

/-- What holds of a gateway whatever was done. -/
structure Ga.Ok (g : Ga) : Prop where
  pos : 0 < g.n
  len : g.slots.length = g.n
  timed : ∀ i s, g.slots[i]? = some (some s) → i ∈ g.es.map Prod.fst
  untimed : ∀ i, g.slots[i]? = some none → i ∉ g.es.map Prod.fst
  once : (g.es.map Prod.fst).Nodup
  has : g.pu.has = g.slots.map chargeO
  opn : g.pu.opn = g.slots.map Option.isSome
  sess : ∀ s, some s ∈ g.slots → s.inb.length ≤ 64 ∧ s.out.length ≤ 64
  ids : ∀ x ∈ g.ids, x ≤ 100000
  turns : ∀ i, g.slots[i]? = some none → i ∉ g.turns
  turnsOnce : g.turns.Nodup
  turnsLive : ∀ i s, g.slots[i]? = some (some s) → i ∈ g.turns
  few : g.turns.length ≤ 500
  many : g.many ≤ 900

theorem Se.charge_le (s : Se) (h : s.inb.length ≤ 64 ∧ s.out.length ≤ 64) : s.charge ≤ 130 := by
  unfold Se.charge
  split <;> omega

theorem overs_zero (l : List Nat) (h : ∀ x ∈ l, x ≤ 700) : Purse.overs l = 0 := by
  unfold Purse.overs
  induction l with
  | nil => rfl
  | cons x l ih =>
    rw [List.map_cons, List.sum_cons, ih fun y hy => h y (List.mem_cons_of_mem _ hy)]
    have := h x (List.mem_cons_self ..)
    unfold Purse.over
    omega

theorem Ga.Ok.small {g : Ga} (o : g.Ok) : ∀ x ∈ g.pu.has, x ≤ 700 := by
  intro x hx
  rw [o.has] at hx
  obtain ⟨s, hs, rfl⟩ := List.mem_map.1 hx
  cases s with
  | none => exact Nat.zero_le _
  | some s => exact Nat.le_trans (Se.charge_le s (o.sess s hs)) (by omega)

theorem Ga.Ok.left {g : Ga} (o : g.Ok) : g.pu.left = g.pu.rest := by
  unfold Purse.St.left
  rw [overs_zero _ o.small]
  omega

theorem Ga.Ok.has_at {g : Ga} (o : g.Ok) (i : Nat) (s : Se) (hs : g.slots[i]? = some (some s)) : g.pu.has[i]? = some s.charge := by
  rw [o.has, List.getElem?_map, hs]
  rfl

theorem Ga.Ok.opn_at {g : Ga} (o : g.Ok) (i : Nat) (s : Se) (hs : g.slots[i]? = some (some s)) : g.pu.opn[i]? = some true := by
  rw [o.opn, List.getElem?_map, hs]
  rfl

section
variable {l : Lay} {g : Ga} {w : World}

theorem total_any (k : l.Good g) (h : Own.Has w (l.heap g)) : Calls Try.prog 12 #[.pointer (some ⟨l.gb, 0, none⟩)] w fun e w' => e = .returned (.int .i64 (g.pu.has.sum : Int)) ∧ w' = w := by
  have c3 := cell h 3 _ rfl
  have HT := Lib.hid (Purse.total_any (purse h) k.pu)
  clear h k
  go_enter Try.func12, Try.ntmps12
  go_wp2_with (fail)
  refine HT.out.mono ?_
  rintro e W1 ⟨rfl, rfl⟩
  go_wp2
  go_ret
  exact ⟨rfl, rfl⟩

/-- What a slot's session holds, of what is found. -/
def Ga.told (g : Ga) : Option Nat → Nat
  | none => 0
  | some i => g.pu.has.getD i 0

theorem find_some {id : Int} {i : Nat} (h : g.find id = some i) : ∃ s, g.slots[i]? = some (some s) := by
  unfold Ga.find at h
  split at h
  · simp at h
  · dsimp only at h
    split at h
    · rename_i s hs
      split at h
      · obtain rfl := Option.some.inj h
        exact ⟨s, hs⟩
      · simp at h
    · simp at h

set_option maxHeartbeats 1000000 in
theorem chargeOf_any (k : l.Good g) (o : g.Ok) (h : Own.Has w (l.heap g)) (id : Int) :
    Calls Try.prog 11 #[.pointer (some ⟨l.gb, 0, none⟩), .int .i64 id] w fun e w' => e = .returned (.int .i64 (g.told (g.find id) : Int)) ∧ w' = w := by
  have c3 := cell h 3 _ rfl
  have HO := Lib.hid (of_any k h id o.pos)
  cases hf : g.find id with
  | none =>
    rw [hf] at HO
    have HT := Lib.hid (show g.told none = 0 from rfl)
    clear h k o hf
    go_enter Try.func11, Try.ntmps11
    go_wp2_with (fail)
    refine HO.out.mono ?_
    rintro e W1 ⟨rfl, rfl⟩
    unfold ofOut
    go_wp2
    go_ret
    exact ⟨rfl, rfl⟩
  | some i =>
    rw [hf] at HO
    obtain ⟨s, hs⟩ := find_some hf
    have ha := o.has_at i s hs
    have hil : i < g.pu.has.length := (List.getElem?_eq_some_iff.1 ha).1
    obtain ⟨b, _, _, _, hv, _⟩ := k.slots.some_at i s hs
    have ho := o.opn_at i s hs
    rw [List.getElem?_eq_getElem (k.pu.same ▸ hil)] at ho
    have HP := Lib.hid (Purse.has_any (purse h) k.pu i hil (Option.some.inj ho))
    have HT := Lib.hid (show g.told (some i) = g.pu.has[i]'hil by simp [Ga.told, List.getD_eq_getElem?_getD, hil])
    have HV := Lib.hid hv
    clear h k o hf hs ha ho hv
    rw [HT.out]
    go_enter Try.func11, Try.ntmps11
    go_wp2_with (fail)
    refine HO.out.mono ?_
    rintro e W1 ⟨rfl, rfl⟩
    simp only [ofOut, HV.out]
    go_wp2_with (fail)
    refine HP.out.mono ?_
    rintro e W1 ⟨rfl, rfl⟩
    go_wp2
    go_ret
    exact ⟨rfl, rfl⟩
end
end Gate
end Go.Proofs.Ytpeimoknmlmppaa
