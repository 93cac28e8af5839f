/- Ids of sessions that come and go: what holds of a gateway, of the map of those that ever were. -/
import Derived.Test.YtpeimoknmlmppaaGateP
import Derived.Maps.OwnSet
import Derived.Maps.Views
namespace Go.Proofs.Ytpeimoknmlmppaa
open Go.RowKit Go.Maps
namespace Gate
open Purse (ints)

/-- m came ever; each that is live is as it began, and its id tells its slot. -/
structure Inv (g : Ga) (p m : Nat) : Prop where
  n : g.n = p
  many : g.many = m
  turns : g.turns.length ≤ m
  idl : g.ids.length = p
  sess : ∀ j s, g.slots[j]? = some (some s) → s = Se.new ∧ ∃ id : Nat, g.ids[j]? = some id ∧ id % p = j

theorem Inv.new (p : Nat) : Inv (Ga.new 40000 p) p 0 :=
  ⟨rfl, rfl, Nat.le_refl _, List.length_replicate .., fun j s hs => by
    have := (List.mem_replicate.1 (List.mem_of_getElem? hs)).2
    simp at this⟩

theorem Inv.begin_ {g : Ga} {p m : Nat} (v : Inv g p m) (i c : Nat) (hi : i < p) : Inv (g.begin_ i c) p (m + 1) where
  n := v.n
  many := by show g.many + 1 = _; rw [v.many]
  turns := by show (g.turns ++ [i]).length ≤ _; rw [List.length_append]; have := v.turns; simp; omega
  idl := (List.length_set ..).trans v.idl
  sess := by
    intro j s hj
    have hj' : (g.slots.set i (some Se.new))[j]? = some (some s) := hj
    show _ ∧ ∃ id : Nat, (g.ids.set i (i + g.n * g.many))[j]? = some id ∧ _
    by_cases hij : i = j
    · subst hij
      have hl : i < g.slots.length := by
        have := (List.getElem?_eq_some_iff.1 hj').1
        simpa using this
      rw [List.getElem?_set_self hl] at hj'
      refine ⟨(Option.some.inj (Option.some.inj hj')).symm, _, List.getElem?_set_self (by rw [v.idl]; exact hi), ?_⟩
      rw [v.n]
      exact slot_of i p hi _
    · rw [List.getElem?_set_ne hij] at hj'
      rw [List.getElem?_set_ne hij]
      exact v.sess j s hj'

theorem Inv.freed {g g' : Ga} {p m : Nat} (v : Inv g p m) (i : Nat) (hs : g'.slots = g.slots.set i none) (hn : g'.n = g.n) (hi : g'.ids = g.ids) (hm : g'.many = g.many) (ht : g'.turns = g.turns.erase i) : Inv g' p m where
  n := hn.trans v.n
  many := hm.trans v.many
  turns := by rw [ht]; exact Nat.le_trans (List.length_erase_le ..) v.turns
  idl := by rw [hi]; exact v.idl
  sess := by
    intro j s hj
    rw [hs] at hj
    rw [hi]
    by_cases hij : i = j
    · subst hij
      have hl : i < g.slots.length := by
        have := (List.getElem?_eq_some_iff.1 hj).1
        simpa using this
      rw [List.getElem?_set_self hl] at hj
      simp at hj
    · rw [List.getElem?_set_ne hij] at hj
      exact v.sess j s hj

theorem mem_liveTo (g : Ga) (x : Nat) : ∀ t, x ∈ g.liveTo t → ∃ j s, g.slots[j]? = some (some s) ∧ g.ids.getD j 0 = x := by
  intro t
  induction t with
  | zero => intro h; simp [Ga.liveTo] at h
  | succ t ih =>
    intro h
    rw [Ga.liveTo, List.mem_append] at h
    rcases h with h | h
    · exact ih h
    · split at h
      · rename_i s hs
        simp at h
        exact ⟨t, s, hs, h.symm⟩
      · simp at h

theorem Inv.live {g : Ga} {p m : Nat} (v : Inv g p m) (x : Nat) (h : x ∈ g.live) : ∃ j, g.find (x : Int) = some j ∧ g.slots[j]? = some (some Se.new) ∧ g.ids[j]? = some x ∧ x % g.n = j := by
  obtain ⟨j, s, hs, hx⟩ := mem_liveTo g x g.n h
  obtain ⟨rfl, id, hid, hm⟩ := v.sess j s hs
  have : id = x := by
    rw [List.getD_eq_getElem?_getD, hid] at hx
    exact hx
  subst this
  refine ⟨j, find_at g j id (by rw [v.n]; exact hm) _ hs hid, hs, hid, by rw [v.n]; exact hm⟩

theorem full_of (g : Ga) (h : g.slots.length = g.n) (hl : g.live.length = g.n) : ∀ j : Nat, g.slots[j]? ≠ some none := by
  intro j hj
  rw [live_len g h, ← h] at hl
  have := List.countP_eq_length.1 hl none (List.mem_of_getElem? hj)
  simp at this

theorem room_of (g : Ga) (h : g.slots.length = g.n) (hl : g.live.length ≠ g.n) : ∃ i : Nat, g.slots[i]? = some none ∧ ∀ j, j < i → g.slots[j]? ≠ some none := by
  have hlt : g.slots.findIdx Option.isNone < g.slots.length := by
    rw [List.findIdx_lt_length]
    refine Classical.byContradiction fun hc => hl ?_
    rw [live_len g h, ← h]
    refine List.countP_eq_length.2 fun a ha => ?_
    cases a with
    | none => exact absurd ⟨none, ha, rfl⟩ hc
    | some s => rfl
  refine ⟨g.slots.findIdx Option.isNone, ?_, fun j hj => ?_⟩
  · have h1 := List.findIdx_getElem (w := hlt)
    rw [List.getElem?_eq_getElem hlt]
    cases h2 : g.slots[g.slots.findIdx Option.isNone]'hlt with
    | none => rfl
    | some s => rw [h2] at h1; simp at h1
  · have h1 := List.not_of_lt_findIdx hj
    rw [List.getElem?_eq_getElem (by omega)]
    intro h2
    rw [Option.some.inj h2] at h1
    simp at h1

/-- The object o is a map of at most k entries in which no id of the turn t or later stands. -/
def Ever (o : Obj) (k p t : Nat) : Prop := ∃ D : DataW Unit, (∀ id : Nat, t ≤ id / p → D.atKey (.int .i64 (id : Int)) (.lit (.bool false)) = .lit (.bool false)) ∧
  ∀ (w : World) (b : Nat), w.heap[b]? = some o → w.ownsMap Try.prog 3 (plainElem Try.prog 4) b k D

theorem law : Keyed Try.prog 3 := int_keyed Try.underlying3
theorem key (k : Nat) (hk : k ≤ 1000000) : keyOf Try.prog 3 (.int .i64 (k : Int)) = some (.int .i64 (k : Int)) := keyOf_int_mk Try.underlying3 (by simp [Lit.wf, IntKind.min, IntKind.max, IntKind.signed, IntKind.bits]; omega)
theorem zeroB (w : World) : (zeroValue 4).run Try.prog w = .ok (.bool false) w := by kernel_rfl
theorem mkB (x : Bool) : plainElem (H := Unit) Try.prog 4 (.bool x) = some (.lit (.bool x), []) := by simp [plainElem, Try.underlying4]

theorem invB {v : Value} {x : Bool} {ps : List MemPlace} (h : plainElem (H := Unit) Try.prog 4 v = some (.lit (.bool x), ps)) : v = .bool x := by
  cases v <;> simp [plainElem, Try.underlying4] at h
  rw [h.1]

theorem ever_new (w : World) (p : Nat) : Ever (.map #[] 0) 0 p 0 := by
  refine ⟨.map [], fun _ _ => rfl, fun _ _ hb => ⟨#[], 0, hb, ?_, by simp, rfl⟩⟩
  obtain ⟨es, clock, h1, h2, _⟩ := World.ownsMap_made w Try.prog 3 (plainElem (H := Unit) Try.prog 4)
  rw [heap_alloc_new] at h1
  obtain ⟨rfl, rfl⟩ : (#[] : Array MapEntry) = es ∧ 0 = clock := by simpa using h1
  exact h2

theorem ever_run {o : Obj} {k p t : Nat} (e : Ever o k p t) {w : World} {b : Nat} (hb : w.heap[b]? = some o) (id : Nat) (hid : id ≤ 1000000) (ht : t ≤ id / p) :
    (Instr.lookup 36 (.map (some b)) (.int .i64 (id : Int)) false).run Try.prog w = .ok (.bool false) w := by
  obtain ⟨D, hD, hown⟩ := e
  obtain ⟨v, ps, hrun, hv⟩ := (hown w b hb).lookup law Try.underlying36 (zeroB w) (zd := .lit (.bool false)) (zp := []) (mkB false) (key id hid)
  rw [hD id ht] at hv
  rw [invB hv] at hrun
  exact hrun

theorem ever_store {o : Obj} {k p t : Nat} (e : Ever o k p t) {w : World} {b : Nat} (hb : w.heap[b]? = some o) (hk : k < 1000000) (id : Nat) (hid : id ≤ 1000000) (ht : id / p = t) :
    ∃ w' o', (Instr.mapUpdate 36 (.map (some b)) (.int .i64 (id : Int)) (.bool true)).run Try.prog w = .ok () w' ∧ w'.heap[b]? = some o' ∧ Ever o' (k + 1) p (t + 1) ∧ w.grownBy w' (some b) := by
  obtain ⟨D, hD, hown⟩ := e
  obtain ⟨w', hrun, hown', hg⟩ := (hown w b hb).update law Try.underlying36 (by unfold maxLen; omega) (key id hid) (mkB true)
  obtain ⟨es', clock', hb', F', hs', hD'⟩ := hown'
  refine ⟨w', _, hrun, hb', ⟨_, fun j hj => ?_, fun v c hc => ⟨es', clock', hc, F', hs', hD'⟩⟩, hg⟩
  rw [atKey_put_other (by intro e; simp at e; have : j = id := by omega
                          subst this; omega)]
  exact hD j (by omega)
end Gate
end Go.Proofs.Ytpeimoknmlmppaa
