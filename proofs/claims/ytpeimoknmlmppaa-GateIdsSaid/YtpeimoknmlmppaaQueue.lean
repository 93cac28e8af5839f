/- The queue's functions: what they hand back, what the queue holds behind them. -/
import Derived.Test.YtpeimoknmlmppaaSlc
import Derived.Test.YtpeimoknmlmppaaProg
import Derived.OpenShut
import Derived.Deep.QuietTactic
import Derived.Lib.Hide
namespace Go.Proofs.Ytpeimoknmlmppaa
open Go.RowKit
namespace Queue

/-- The slice lv, with the memory h, is chunks that come to c. -/
def Is (c : List UInt8) (lv : Value) (h : Own.Heap) : Prop :=
  ∃ chunks : List ByteArray, Own.Slc 9 (chunks.map Value.string) lv h ∧ c = (chunks.map fun x => x.data.toList).flatten ∧ ∀ x ∈ chunks, x.size ≠ 0

theorem Is.none : Is [] (.slice none 0 0) [] := ⟨[], Own.Slc.bare _ rfl, rfl, by simp⟩

theorem few (chunks : List ByteArray) (h : ∀ x ∈ chunks, x.size ≠ 0) : chunks.length ≤ ((chunks.map fun x => x.data.toList).flatten).length := by
  induction chunks with
  | nil => simp
  | cons x l ih =>
    have h1 := h x (List.mem_cons_self ..)
    have h2 := ih fun y hy => h y (List.mem_cons_of_mem _ hy)
    rw [List.map_cons, List.flatten_cons, List.length_append, List.length_cons]
    have q : x.data.toList.length = x.size := Array.length_toList
    omega

/-- The two cells of a queue that lies in block b behind pre. -/
abbrev at_ (b : Nat) (T : TypeId) (pre : List Value) (lv : Value) (c : List UInt8) (post : List Value) : Nat × Obj := Own.row b T (pre ++ (lv :: .int .i64 (c.length : Int) :: post))

section
variable {w : World} {b : Nat} {T : TypeId} {pre post : List Value} {lv : Value} {c : List UInt8} {h : Own.Heap}

theorem cell0 {R : Own.Heap} (k : Own.Has w R) (hm : at_ b T pre lv c post ∈ R) : w.cell? ⟨b, pre.length, none⟩ = some lv :=
  k.cell b T _ hm pre.length lv (by simp)
theorem cell1 {R : Own.Heap} (k : Own.Has w R) (hm : at_ b T pre lv c post ∈ R) : w.cell? ⟨b, pre.length + 1, none⟩ = some (.int .i64 (c.length : Int)) :=
  k.cell b T _ hm (pre.length + 1) _ (by simp)

theorem turn01 {a R : Own.Heap} {u v : World} (t : Own.Turn a (at_ b T pre lv c post :: R) u v) (lv' : Value) (c' : List UInt8) (n : Int) (hn : n = (c'.length : Int)) :
    Own.Turn a (at_ b T pre lv' c' post :: R) u ((v.setCell ⟨b, pre.length, none⟩ lv').setCell ⟨b, pre.length + 1, none⟩ (.int .i64 n)) := by
  subst hn
  have t2 := (t.set pre.length lv' (by simp)).set (pre.length + 1) (.int .i64 (c'.length : Int)) (by simp)
  have e : ((pre ++ (lv :: .int .i64 (c.length : Int) :: post)).set pre.length lv').set (pre.length + 1) (.int .i64 (c'.length : Int)) = pre ++ (lv' :: .int .i64 (c'.length : Int) :: post) := by
    rw [List.set_append_right _ _ (by omega), Nat.sub_self, List.set_append_right _ _ (by omega), Nat.add_sub_cancel_left]
    rfl
  rw [e] at t2
  exact t2

theorem len_any {R : Own.Heap} (k : Own.Has w R) (hm : at_ b T pre lv c post ∈ R) (P : Nat) (hP : P = pre.length) :
    Calls Try.prog 53 #[.pointer (some ⟨b, P, none⟩)] w fun e w' => e = .returned (.int .i64 (c.length : Int)) ∧ w' = w := by
  have c1 := cell1 k hm
  rw [← hP] at c1
  clear hP
  go_enter Try.func53, Try.ntmps53
  go_wp2
  go_ret
  exact ⟨rfl, rfl⟩

set_option maxHeartbeats 1000000 in
theorem add_any (k : Own.Has w (at_ b T pre lv c post :: h)) (q : Is c lv h) (P : Nat) (hP : P = pre.length) (s : ByteArray) (hs : c.length + s.size ≤ 10000) :
    Calls Try.prog 60 #[.pointer (some ⟨b, P, none⟩), .string s] w fun e w' => (∃ v, e = .returned v) ∧
      ∃ lv' h', Is (c ++ s.data.toList) lv' h' ∧ Own.Turn (at_ b T pre lv c post :: h) (at_ b T pre lv' (c ++ s.data.toList) post :: h') w w' := by
  have hk := k
  obtain ⟨chunks, hs1, hs2, hs3⟩ := q
  have c0 := cell0 k (List.mem_cons_self ..)
  have c1 := cell1 k (List.mem_cons_self ..)
  rw [← hP] at c0 c1
  have HS := Lib.hid hs
  by_cases h0 : s.size = 0
  · have e0 : s.toList.isEmpty = true := by
      rw [ByteArray.toList_eq, List.isEmpty_iff]
      exact List.eq_nil_of_length_eq_zero (by rw [Array.length_toList]; exact h0)
    have E0 := Lib.hid (show s.data.toList = [] from List.eq_nil_of_length_eq_zero (by rw [Array.length_toList]; exact h0))
    have HQ := Lib.hid hs1
    have HK := Lib.hid hk
    clear h0 hs1 hs hk k hP
    go_enter Try.func60, Try.ntmps60
    go_wp2
    all_goals refine bodyPost_ret (results_none rfl _ _ _) rfl ?_
    all_goals
      refine ⟨⟨_, rfl⟩, lv, h, ⟨chunks, HQ.out, ?_, hs3⟩, ?_⟩
      · rw [E0.out, hs2]; simp
      · rw [E0.out, List.append_nil]
        exact Own.Turn.refl HK.out
  · have e0 : s.toList.isEmpty = false := by
      rw [ByteArray.toList_eq, List.isEmpty_eq_false_iff]
      intro e
      have q : s.data.toList.length = s.size := Array.length_toList
      rw [e] at q
      exact h0 q.symm
    obtain ⟨i0, hi, hz0, hz1, hz2⟩ := info_parts (P := Try.prog) (e := 9) (z := .string ⟨#[]⟩) (size := 1) (bytes := 16) (by kernel_rfl)
    have HL := Lib.hid (show chunks.length ≤ c.length by rw [hs2]; exact few chunks hs3)
    obtain ⟨a0, cp, e1⟩ := hs1.len
    subst e1
    rw [List.length_map] at hs1 hk c0
    clear k
    have HH := Lib.hid (And.intro hs1 (And.intro hs2 hs3))
    have Hi := Lib.hid (And.intro hi (And.intro hz0 (And.intro hz1 hz2)))
    have HP := Lib.hid hP
    clear hi hz0 hz1 hz2 hs hs2 hs3 hs1 hP
    go_enter Try.func60, Try.ntmps60
    go_wp2_with (at_builtin; go_loud (refine Own.wpList_append_one rfl _ _ 72 rfl 9 i0 (.string ⟨#[]⟩) 16 Try.underlying72 Hi.out.1 Hi.out.2.1 Hi.out.2.2.1 Hi.out.2.2.2 rfl _ _ chunks.length (List.length_map ..) h [at_ b T pre (.slice a0 _ cp) c post] rfl HH.out.1 (Own.Has.swap (a := [_]) hk) (.string s) rfl rfl ?c1 ?c2 ?_))
    case c1 => have := HL.out; have := HS.out; simp only [maxLen]; omega
    case c2 => have := HL.out; have := HS.out; omega
    intro ad' c' h' w1 hs' ht'
    have hk1 : Own.Has w1 (at_ b T pre (.slice a0 chunks.length cp) c post :: h') := ht'.has.swap
    have d1 := cell1 hk1 (List.mem_cons_self ..)
    have f0 : w1.frozen? ⟨b, P, none⟩ = false := hk1.free b T _ (List.mem_cons_self ..) P
    have f1 : w1.frozen? ⟨b, P + 1, none⟩ = false := hk1.free b T _ (List.mem_cons_self ..) (P + 1)
    have d0 := cell0 hk1 (List.mem_cons_self ..)
    rw [← HP.out] at d0 d1
    go_wp2
    go_end0
    have hsz : (s.size : Int) = (s.data.toList.length : Int) := by rw [Array.length_toList]; rfl
    refine ⟨⟨_, rfl⟩, .slice ad' (chunks.length + 1) c', h', ⟨chunks ++ [s], by simpa using hs', ?_, ?_⟩, ?_⟩
    · rw [List.map_append, List.flatten_append, ← HH.out.2.1]; simp
    · intro x hx
      rcases List.mem_append.1 hx with h1 | h1
      · exact HH.out.2.2 x h1
      · rw [List.mem_singleton.1 h1]; exact h0
    · have t1 := ht'.perm List.perm_append_comm List.perm_append_comm
      have t2 := turn01 t1 (.slice ad' (chunks.length + 1) c') (c ++ s.data.toList) (wrap64 ((c.length : Int) + (s.size : Int))) (by have := HS.out; rw [List.length_append]; unfold wrap64; omega)
      rw [HP.out, List.length_map]
      exact t2
end
end Queue
end Go.Proofs.Ytpeimoknmlmppaa
