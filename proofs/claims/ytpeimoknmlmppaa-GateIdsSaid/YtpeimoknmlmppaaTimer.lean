/- The timer's functions: what they hand back, who is timed behind them. -/
import Derived.Test.YtpeimoknmlmppaaTimerM
import Derived.OpenShut
import Derived.Deep.QuietTactic
import Derived.BigQuiet
import Derived.Carry
import Derived.RegionTactic
namespace Go.Proofs.Ytpeimoknmlmppaa
open Go.RowKit Go.Maps
namespace Timer

/-- The two cells of a timer that lies in block b behind pre. -/
abbrev at_ (b : Nat) (T : TypeId) (pre : List Value) (now : Nat) (mv : Value) (post : List Value) : Nat × Obj := Own.row b T (pre ++ (.int .i64 (now : Int) :: mv :: post))

section
variable {w : World} {b : Nat} {T : TypeId} {pre post : List Value} {mv : Value} {now n : Nat} {es : Ents} {h : Own.Heap}

theorem cell0 {R : Own.Heap} (k : Own.Has w R) (hm : at_ b T pre now mv post ∈ R) : w.cell? ⟨b, pre.length, none⟩ = some (.int .i64 (now : Int)) :=
  k.cell b T _ hm pre.length _ (by simp)
theorem cell1 {R : Own.Heap} (k : Own.Has w R) (hm : at_ b T pre now mv post ∈ R) : w.cell? ⟨b, pre.length + 1, none⟩ = some mv :=
  k.cell b T _ hm (pre.length + 1) _ (by simp)

theorem turn1 {a R : Own.Heap} {u v : World} (t : Own.Turn a (at_ b T pre now mv post :: R) u v) (mv' : Value) : Own.Turn a (at_ b T pre now mv' post :: R) u (v.setCell ⟨b, pre.length + 1, none⟩ mv') := by
  have t2 := t.set (pre.length + 1) mv' (by simp)
  have e : (pre ++ (.int .i64 (now : Int) :: mv :: post)).set (pre.length + 1) mv' = pre ++ (.int .i64 (now : Int) :: mv' :: post) := by
    rw [List.set_append_right _ _ (by omega), Nat.add_sub_cancel_left]
    rfl
  rw [e] at t2
  exact t2

theorem isNil (w : World) : (binOp .eql 49 (.map none) (.map none)).run Try.prog w = .ok (.bool true) w := by kernel_rfl
theorem notNil (w : World) (mb : Nat) : (binOp .eql 49 (.map (some mb)) (.map none)).run Try.prog w = .ok (.bool false) w := by kernel_rfl

set_option maxRecDepth 100000 in
set_option maxHeartbeats 1000000 in
theorem start_any (hk : Own.Has w (at_ b T pre now mv post :: h)) (m : Map n es mv h) (P : Nat) (hP : P = pre.length) (id L : Nat) (hid : id ≤ 1000) (hL : L ≤ 1000) (hn : n < 1000) (hl : ∀ e ∈ es, e.1 ≠ id) :
    Calls Try.prog 26 #[.pointer (some ⟨b, P, none⟩), .int .i64 (id : Int), .int .i64 (L : Int)] w fun e w' => e = .returned (.bool true) ∧
      ∃ mv' h' c, Map (n + 1) (es ++ [(id, c, ⟨L, now, now⟩)]) mv' h' ∧ Own.Turn (at_ b T pre now mv post :: h) (at_ b T pre now mv' post :: h') w w' := by
  have c0 := cell0 hk (List.mem_cons_self ..)
  have c1 := cell1 hk (List.mem_cons_self ..)
  have f1 := hk.free b T _ (List.mem_cons_self ..) (pre.length + 1)
  rw [← hP] at c0 c1 f1
  cases m with
  | none h0 =>
    subst h0
    have hlook := run_nil id (by omega) w
    have hmm := @run_makeMap Try.prog
    have hisn := isNil
    have t0 := ((Own.Turn.refl hk).allocAt w.heap.size rfl (.map #[] 0)).perm (List.Perm.refl _) (List.Perm.swap _ _ _)
    have d0 := cell0 t0.has (List.mem_cons_self ..)
    have d1 := cell1 t0.has (List.mem_cons_self ..)
    have df := t0.has.free b T _ (List.mem_cons_self ..) (pre.length + 1)
    have t1 := turn1 t0 (.map (some w.heap.size))
    have t2 := (t1.allocAt (w.heap.size + 1) (by simp) (.cells #[.int .i64 (L : Int), .int .i64 (now : Int), .int .i64 (now : Int)] 84))
    have g1 := cell1 t2.has (List.mem_cons_of_mem _ (List.mem_cons_self ..))
    replace t2 := t2.drew
    obtain ⟨w', o', hrun, hb', ho', hg⟩ := run_store (made w) (t2.has.here (w.heap.size, .map #[] 0) (by simp)) (by omega) id (by omega) (by simp) (w.heap.size + 1) ⟨L, now, now⟩
    have T3 := Lib.hid (turnObj (t2.perm (List.Perm.refl _) (List.perm_append_comm (l₁ := [_, _]) (l₂ := [_]))) hg o' hb')
    have HM := Lib.hid ho'
    clear hg hb' ho'
    rw [← hP] at d0 d1 df g1 hrun
    clear t0 t1 t2
    have HB := Lib.hid (And.intro hP (And.intro hid (And.intro hL (And.intro hn hl))))
    clear hP hn hl hid hL hk
    go_enter Try.func26, Try.ntmps26
    go_wp2
    go_region
    all_goals go_wp2
    all_goals go_ret
    all_goals
      refine ⟨rfl, .map (some w.heap.size), _, w.heap.size + 1, Map.some w.heap.size o' ?_, ?_⟩
      · exact HM.out.mono (by omega)
      · exact T3.out.perm (List.Perm.refl _) (List.perm_append_comm (l₁ := [_, _]) (l₂ := [_]))
  | some mb o ho =>
    have ob : w.heap[mb]? = some o := hk.here (mb, o) (List.mem_cons_of_mem _ (List.mem_cons_self ..))
    have hlook := run_none ho ob id (by omega) (look_none hl)
    have hisn := fun W => notNil W mb
    have t2 := ((Own.Turn.refl hk).allocAt w.heap.size rfl (.cells #[.int .i64 (L : Int), .int .i64 (now : Int), .int .i64 (now : Int)] 84))
    have g1 := cell1 t2.has (List.mem_cons_of_mem _ (List.mem_cons_self ..))
    replace t2 := t2.drew
    obtain ⟨w', o', hrun, hb', ho', hg⟩ := run_store ho (t2.has.here (mb, o) (by simp)) (by omega) id (by omega) hl w.heap.size ⟨L, now, now⟩
    have T3 := Lib.hid (turnObj (t2.perm (List.Perm.refl _) (List.perm_middle (l₁ := [_, _]) (l₂ := rows es))) hg o' hb')
    have HM := Lib.hid ho'
    clear hg hb' ho' t2
    rw [← hP] at g1
    have HB := Lib.hid (And.intro hP (And.intro hid (And.intro hL (And.intro hn hl))))
    clear hP hn hl hid hL hk ho ob
    go_enter Try.func26, Try.ntmps26
    go_wp2
    go_region
    all_goals go_wp2
    all_goals go_ret
    all_goals
      refine ⟨rfl, .map (some mb), _, w.heap.size, Map.some mb o' HM.out, ?_⟩
      refine T3.out.perm (List.Perm.refl _) ?_
      rw [show rows (es ++ [(id, w.heap.size, (⟨L, now, now⟩ : Rec))]) = rows es ++ [Own.row w.heap.size 84 (Rec.cells ⟨L, now, now⟩)] by simp [rows]]
      exact perm_last _ _ _ _

set_option maxRecDepth 100000 in
set_option maxHeartbeats 1000000 in
theorem touch_any (A B : Ents) (c : Nat) (r : Rec) (id : Nat) (he : es = A ++ (id, c, r) :: B) (hA : ∀ e ∈ A, e.1 ≠ id) (hid : id ≤ 1000) (hk : Own.Has w (at_ b T pre now mv post :: h)) (m : Map n es mv h) (P : Nat) (hP : P = pre.length) :
    Calls Try.prog 31 #[.pointer (some ⟨b, P, none⟩), .int .i64 (id : Int)] w fun e w' => e = .returned (.bool true) ∧
      ∃ h', Map n (A ++ (id, c, { r with active := now }) :: B) mv h' ∧ Own.Turn (at_ b T pre now mv post :: h) (at_ b T pre now mv post :: h') w w' := by
  have c0 := cell0 hk (List.mem_cons_self ..)
  have c1 := cell1 hk (List.mem_cons_self ..)
  rw [← hP] at c0 c1
  subst he
  cases m with
  | none h0 => simp at h0
  | some mb o ho =>
    have ob : w.heap[mb]? = some o := hk.here (mb, o) (List.mem_cons_of_mem _ (List.mem_cons_self ..))
    have hlook := run_some ho ob id (by omega) c (look_some A B c r hA)
    have hr : rows (A ++ (id, c, r) :: B) = rows A ++ Own.row c 84 r.cells :: rows B := by simp [rows]
    have T1 := Own.Turn.setAt (A := at_ b T pre now (.map (some mb)) post :: (mb, o) :: rows A) (b := c) (T := 84) (l := r.cells) (C := rows B) (by have := Own.Turn.refl hk; rw [hr] at this; exact this) 2 (.int .i64 (now : Int)) (by simp [Rec.cells])
    rw [hr] at hk
    have ca := hk.cell c 84 r.cells (by simp) 2 _ rfl
    have fa := hk.free c 84 r.cells (by simp) 2
    have T2 := Lib.hid T1
    have HM := Lib.hid (ho.touch { r with active := (now : Int) })
    have HH := Lib.hid (And.intro hk hr)
    clear hk ho ob T1 hP hid hA hr
    go_enter Try.func31, Try.ntmps31
    go_wp2
    go_ret
    refine ⟨rfl, _, Map.some mb o HM.out, ?_⟩
    have hr' : rows (A ++ (id, c, { r with active := (now : Int) }) :: B) = rows A ++ Own.row c 84 ({ r with active := (now : Int) } : Rec).cells :: rows B := by simp [rows]
    rw [hr', HH.out.2]
    exact T2.out
end
end Timer
end Go.Proofs.Ytpeimoknmlmppaa
