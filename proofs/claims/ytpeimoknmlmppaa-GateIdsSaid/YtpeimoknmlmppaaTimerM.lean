/- A map from numbers to pointers as a part of a partial heap. -/
import Derived.Test.YtpeimoknmlmppaaSlc
import Derived.Test.YtpeimoknmlmppaaProg
import Derived.Maps.OwnSet
import Derived.Maps.Views
import Derived.Laws.AppendOwn
namespace Go.Proofs.Ytpeimoknmlmppaa
open Go.RowKit Go.Maps
namespace Timer

structure Rec where
  limit : Int
  begun : Int
  active : Int

/-- What is timed: its number, where it lies, what is known of it. -/
abbrev Ents := List (Nat × Nat × Rec)

def Rec.cells (r : Rec) : List Value := [.int .i64 r.limit, .int .i64 r.begun, .int .i64 r.active]

def rows (es : Ents) : Own.Heap := es.map fun e => Own.row e.2.1 84 e.2.2.cells

/-- How a pointer reads. -/
def R (v : Value) : Option (DataW Unit × List MemPlace) :=
  match v with
  | .pointer none => some (.nil, [])
  | .pointer (some ⟨b, 0, none⟩) => some (.lit (.int .i64 (b : Int)), [])
  | _ => none

theorem R_nil {v : Value} {ps : List MemPlace} (h : R v = some (.nil, ps)) : v = .pointer none := by
  unfold R at h
  split at h <;> simp_all

theorem R_lit {v : Value} {ps : List MemPlace} {b : Nat} (h : R v = some (.lit (.int .i64 (b : Int)), ps)) : v = .pointer (some ⟨b, 0, none⟩) := by
  unfold R at h
  split at h
  · simp at h
  · rename_i c
    simp at h
    have : c = b := by omega
    rw [this]
  · simp at h

def look (es : Ents) (k : Nat) : DataW Unit :=
  match es.find? (fun e => e.1 == k) with
  | some e => .lit (.int .i64 (e.2.1 : Int))
  | none => .nil

def Knows (D : DataW Unit) (es : Ents) : Prop := ∀ k : Nat, D.atKey (.int .i64 (k : Int)) .nil = look es k

/-- The object o is a map of at most n entries that leads to es. -/
def Obj' (o : Obj) (n : Nat) (es : Ents) : Prop := ∃ D : DataW Unit, Knows D es ∧ ∀ (w : World) (b : Nat), w.heap[b]? = some o → w.ownsMap Try.prog 3 R b n D

inductive Map (n : Nat) (es : Ents) : Value → Own.Heap → Prop where
  | none (h0 : es = []) : Map n es (.map none) []
  | some (b : Nat) (o : Obj) (h : Obj' o n es) : Map n es (.map (some b)) ((b, o) :: rows es)

theorem law : Keyed Try.prog 3 := int_keyed Try.underlying3

theorem key (k : Nat) (hk : k ≤ 1000000) : keyOf Try.prog 3 (.int .i64 (k : Int)) = some (.int .i64 (k : Int)) := keyOf_int_mk Try.underlying3 (by simp [Lit.wf, IntKind.min, IntKind.max, IntKind.signed, IntKind.bits]; omega)

theorem zeroE (w : World) : (zeroValue 82).run Try.prog w = .ok (.pointer none) w := by kernel_rfl

section
variable {n k : Nat} {es : Ents} {b : Nat} {o : Obj} {w : World}

theorem look_none (h : ∀ e ∈ es, e.1 ≠ k) : look es k = .nil := by
  unfold look
  rw [List.find?_eq_none.2 (fun e he => by simpa using h e he)]

theorem look_some (A B : Ents) (b : Nat) (r : Rec) (h : ∀ e ∈ A, e.1 ≠ k) : look (A ++ (k, b, r) :: B) k = .lit (.int .i64 (b : Int)) := by
  unfold look
  rw [List.find?_append, List.find?_eq_none.2 (fun e he => by simpa using h e he)]
  simp

theorem run_none (h : Obj' o n es) (hb : w.heap[b]? = some o) (k : Nat) (hk : k ≤ 1000000) (hl : look es k = .nil) :
    (Instr.lookup 49 (.map (some b)) (.int .i64 (k : Int)) false).run Try.prog w = .ok (.pointer none) w := by
  obtain ⟨D, hD, hown⟩ := h
  obtain ⟨v, ps, hrun, hv⟩ := (hown w b hb).lookup law Try.underlying49 (zeroE w) (zd := .nil) (zp := []) rfl (key k hk)
  rw [hD k, hl] at hv
  rw [R_nil hv] at hrun
  exact hrun

theorem run_some (h : Obj' o n es) (hb : w.heap[b]? = some o) (k : Nat) (hk : k ≤ 1000000) (c : Nat) (hl : look es k = .lit (.int .i64 (c : Int))) :
    (Instr.lookup 49 (.map (some b)) (.int .i64 (k : Int)) false).run Try.prog w = .ok (.pointer (some ⟨c, 0, none⟩)) w := by
  obtain ⟨D, hD, hown⟩ := h
  obtain ⟨v, ps, hrun, hv⟩ := (hown w b hb).lookup law Try.underlying49 (zeroE w) (zd := .nil) (zp := []) rfl (key k hk)
  rw [hD k, hl] at hv
  rw [R_lit hv] at hrun
  exact hrun

theorem run_nil (k : Nat) (hk : k ≤ 1000000) (w : World) :
    (Instr.lookup 49 (.map none) (.int .i64 (k : Int)) false).run Try.prog w = .ok (.pointer none) w :=
  Maps.look_nil false law Try.underlying49 (zeroE w) (key k hk)

/-- A new number is stored: some world in which the block is a map that leads to it too. -/
theorem run_store (h : Obj' o n es) (hb : w.heap[b]? = some o) (hn : n < 1000000) (k : Nat) (hk : k ≤ 1000000) (hl : ∀ e ∈ es, e.1 ≠ k) (c : Nat) (r : Rec) :
    ∃ w' o', (Instr.mapUpdate 49 (.map (some b)) (.int .i64 (k : Int)) (.pointer (some ⟨c, 0, none⟩))).run Try.prog w = .ok () w' ∧
      w'.heap[b]? = some o' ∧ Obj' o' (n + 1) (es ++ [(k, c, r)]) ∧ w.grownBy w' (some b) := by
  obtain ⟨D, hD, hown⟩ := h
  obtain ⟨w', hrun, hown', hg⟩ := (hown w b hb).update law Try.underlying49 (by unfold maxLen; omega) (key k hk) (val := .pointer (some ⟨c, 0, none⟩)) (d := .lit (.int .i64 (c : Int))) (ps := []) rfl
  have hmap := (hown w b hb).isMap
  obtain ⟨es', clock', hb', F', hs', hD'⟩ := hown'
  refine ⟨w', _, hrun, hb', ⟨_, ?_, fun v c hc => ⟨es', clock', hc, F', hs', hD'⟩⟩, hg⟩
  intro j
  by_cases hj : j = k
  · subst hj
    rw [atKey_put_same hmap (by trivial), look_some es [] c r hl]
  · rw [atKey_put_other (by intro e; simp at e; omega), hD j]
    unfold look
    rw [List.find?_append]
    have : (k == j) = false := by simp; omega
    simp [this]

theorem made (w : World) : Obj' (.map #[] 0) 0 [] :=
  ⟨.map [], fun _ => rfl, fun _ _ hb => ⟨#[], 0, hb, (by
    obtain ⟨es, clock, h1, h2, _⟩ := World.ownsMap_made w Try.prog 3 R
    rw [heap_alloc_new] at h1
    obtain ⟨rfl, rfl⟩ : (#[] : Array MapEntry) = es ∧ 0 = clock := by simpa using h1
    exact h2), by simp, rfl⟩⟩
theorem Obj'.mono (h : Obj' o n es) {m : Nat} (hm : n ≤ m) : Obj' o m es := by
  obtain ⟨D, hD, hown⟩ := h
  exact ⟨D, hD, fun w b hb => (hown w b hb).mono hm⟩

theorem look_touch (A B : Ents) (c : Nat) (r r' : Rec) (id j : Nat) : look (A ++ (id, c, r) :: B) j = look (A ++ (id, c, r') :: B) j := by
  unfold look
  rw [List.find?_append, List.find?_append]
  cases A.find? (fun e => e.1 == j) with
  | some e => rfl
  | none =>
    simp only [Option.none_or, List.find?_cons]
    by_cases hj : (id == j) = true
    · simp [hj]
    · simp only [Bool.not_eq_true] at hj; simp [hj]

theorem Obj'.touch {A B : Ents} {c : Nat} {r : Rec} {id : Nat} (h : Obj' o n (A ++ (id, c, r) :: B)) (r' : Rec) : Obj' o n (A ++ (id, c, r') :: B) := by
  obtain ⟨D, hD, hown⟩ := h
  exact ⟨D, fun j => (hD j).trans (look_touch A B c r r' id j), hown⟩

theorem perm_last {α : Type} (x y z : α) (l : List α) : (x :: y :: z :: l).Perm (z :: x :: (l ++ [y])) :=
  ((List.Perm.cons _ (List.Perm.swap _ _ _)).trans (List.Perm.swap _ _ _)).trans (List.Perm.cons _ (List.Perm.cons _ (List.perm_append_comm (l₁ := [y]) (l₂ := l))))

/-- One object has turned. -/
theorem turnObj {a r : Own.Heap} {u v w' : World} (t : Own.Turn a ((b, o) :: r) u v) (hg : v.grownBy w' (some b)) (o' : Obj) (hb : w'.heap[b]? = some o') : Own.Turn a ((b, o') :: r) u w' := by
  have hn : b ∉ Own.blocks r := (List.nodup_cons.1 t.has.once).1
  refine ⟨⟨fun p hp => ?_, t.has.once⟩, ⟨hg.os.trans t.keeps.os, hg.tape.trans t.keeps.tape, hg.output.trans t.keeps.output, Nat.le_trans t.keeps.size hg.size, fun i hi hni => ?_⟩, t.new⟩
  · rcases List.mem_cons.1 hp with rfl | h1
    · exact hb
    · have hm := List.mem_map_of_mem (f := Prod.fst) h1
      have h2 := t.has.lt (List.mem_cons_of_mem _ hm)
      exact (hg.block p.1 h2 (fun e => hn (by have : p.1 = b := by simpa using e
                                              rw [this] at hm; exact hm))).trans (t.has.here p (List.mem_cons_of_mem _ h1))
  · refine (hg.block i (Nat.lt_of_lt_of_le hi t.keeps.size) fun e => hni ?_).trans (t.keeps.block i hi hni)
    have e2 : i = b := by simpa using e
    subst e2
    rcases t.new i (List.mem_cons_self ..) with h3 | h3
    · exact h3
    · omega
end
end Timer
end Go.Proofs.Ytpeimoknmlmppaa
