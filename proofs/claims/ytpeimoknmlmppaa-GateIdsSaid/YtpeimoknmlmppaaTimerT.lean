/- One is timed no more. -/
import Derived.Test.YtpeimoknmlmppaaTimer
namespace Go.Proofs.Ytpeimoknmlmppaa
open Go.RowKit Go.Maps
namespace Timer

def gone (es : Ents) (k : Nat) : Ents := es.filter fun e => !(e.1 == k)

theorem look_gone (es : Ents) (k j : Nat) : look (gone es k) j = if j = k then .nil else look es j := by
  unfold look gone
  induction es with
  | nil => simp
  | cons e es ih =>
    by_cases hek : e.1 = k
    · rw [List.filter_cons_of_neg (by simp [hek]), ih]
      by_cases hj : j = k
      · rw [if_pos hj, if_pos hj]
      · rw [if_neg hj, if_neg hj, List.find?_cons_of_neg (by simp; omega)]
    · rw [List.filter_cons_of_pos (by simp [hek])]
      by_cases hej : e.1 = j
      · rw [List.find?_cons_of_pos (by simp [hej]), List.find?_cons_of_pos (by simp [hej]), if_neg (by omega)]
      · rw [List.find?_cons_of_neg (by simp [hej]), List.find?_cons_of_neg (by simp [hej]), ih]

section
variable {n : Nat} {es : Ents} {b : Nat} {o : Obj} {w : World}

theorem run_drop (h : Obj' o n es) (hb : w.heap[b]? = some o) (k : Nat) (hk : k ≤ 1000000) (ty : TypeId) :
    ∃ w' o', (Builtin.delete_ #[49, 3] ty #[.map (some b), .int .i64 (k : Int)]).run Try.prog w = .ok (.tuple #[]) w' ∧ w'.heap[b]? = some o' ∧ Obj' o' n (gone es k) ∧ w.grownBy w' (some b) := by
  obtain ⟨D, hD, hown⟩ := h
  obtain ⟨w', hrun, hown', hg⟩ := (hown w b hb).drop law Try.underlying49 (key k hk) ty
  obtain ⟨es', clock', hb', F', hs', hD'⟩ := hown'
  refine ⟨w', _, hrun, hb', ⟨_, ?_, fun v c hc => ⟨es', clock', hc, F', hs', hD'⟩⟩, hg.grown⟩
  intro j
  rw [look_gone]
  by_cases hj : j = k
  · subst hj
    rw [if_pos rfl, atKey_del_same]
  · rw [if_neg hj, atKey_del_other (by intro e; simp at e; omega), hD j]
end

theorem gone_split (A B : Ents) (k c : Nat) (r : Rec) (hA : ∀ e ∈ A, e.1 ≠ k) (hB : ∀ e ∈ B, e.1 ≠ k) : gone (A ++ (k, c, r) :: B) k = A ++ B := by
  unfold gone
  rw [List.filter_append, List.filter_eq_self.2 (fun e he => by simp [hA e he]), List.filter_cons_of_neg (by simp), List.filter_eq_self.2 (fun e he => by simp [hB e he])]

section
variable {w : World} {b : Nat} {T : TypeId} {pre post : List Value} {mv : Value} {now n : Nat} {es : Ents} {h : Own.Heap}

set_option maxRecDepth 100000 in
set_option maxHeartbeats 1000000 in
theorem stop_any (A B : Ents) (c : Nat) (r : Rec) (id : Nat) (he : es = A ++ (id, c, r) :: B) (hA : ∀ e ∈ A, e.1 ≠ id) (hB : ∀ e ∈ B, e.1 ≠ id) (hid : id ≤ 1000) (hk : Own.Has w (at_ b T pre now mv post :: h)) (m : Map n es mv h) (P : Nat) (hP : P = pre.length) :
    Calls Try.prog 39 #[.pointer (some ⟨b, P, none⟩), .int .i64 (id : Int)] w fun e w' => e = .returned (.bool true) ∧
      ∃ h', Map n (A ++ B) mv h' ∧ Own.Turn (at_ b T pre now mv post :: h) (at_ b T pre now mv post :: h') w w' := by
  have c1 := cell1 hk (List.mem_cons_self ..)
  rw [← hP] at c1
  subst he
  cases m with
  | none h0 => simp at h0
  | some mb o ho =>
    have ob : w.heap[mb]? = some o := hk.here (mb, o) (List.mem_cons_of_mem _ (List.mem_cons_self ..))
    have hlook := run_some ho ob id (by omega) c (look_some A B c r hA)
    obtain ⟨w', o', hrun, hb', ho', hg⟩ := run_drop ho ob id (by omega) 0
    rw [gone_split A B id c r hA hB] at ho'
    have t0 := turnObj ((Own.Turn.refl hk).perm (List.Perm.refl _) (List.Perm.swap _ _ _)) hg o' hb'
    have hr : rows (A ++ (id, c, r) :: B) = rows A ++ Own.row c 84 r.cells :: rows B := by simp [rows]
    have hr' : rows (A ++ B) = rows A ++ rows B := by simp [rows]
    have t1 : Own.Turn (at_ b T pre now (.map (some mb)) post :: (mb, o) :: rows (A ++ (id, c, r) :: B)) (at_ b T pre now (.map (some mb)) post :: (mb, o') :: rows (A ++ B)) w w' := by
      refine Own.Turn.drop (c := [Own.row c 84 r.cells]) (t0.perm (List.Perm.refl _) ?_)
      rw [hr, hr']
      refine Own.perm_of_count _ _ fun x => ?_
      simp only [List.count_append, List.count_cons, List.cons_append, List.append_assoc, List.count_nil]
      omega
    have T1 := Lib.hid t1
    have HM := Lib.hid ho'
    clear hk ho ob t0 t1 hP hid hA hB hr hr' hb' ho' hg
    go_enter Try.func39, Try.ntmps39
    go_wp2
    go_ret
    exact ⟨rfl, _, Map.some mb o' HM.out, T1.out⟩
end
end Timer
end Go.Proofs.Ytpeimoknmlmppaa
