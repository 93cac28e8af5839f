/- truchmanbook's lists of parts: copyEvs, LentEvs, SameEvs, StaysEvs. -/
import Derived.Test.YtopaadmnlghdaaaDoorJsonO
import Derived.Test.YtopaadmnlghdaaaDoorSlkC
namespace Go.Proofs.YtopaadmnlghdaaaDoor
open Go.RowKit
namespace Json

theorem evs_one (es : List Evt) : ∀ u ∈ es.flatMap Evt.cells, u.oneCell' = true := by
  intro u hu
  simp only [List.mem_flatMap, Evt.cells, List.mem_cons, List.not_mem_nil, or_false] at hu
  obtain ⟨e, _, rfl | rfl | rfl | rfl | rfl⟩ := hu <;> rfl

set_option maxRecDepth 100000 in
/-- A copy of parts that lie wherever. -/
theorem run_copy (w : World) (v : Value) (es : List Evt) (hr : Reads w v es) (hn : es.length ≤ 100000) (ty : TypeId) :
    ∃ v' h' w', (Builtin.append_ #[22, 22] ty #[.slice none 0 0, v]).run Tryd.prog w = .ok v' w' ∧ Own.Slk 5 34 es.length (es.flatMap Evt.cells) v' h' ∧ Own.Turn [] h' w w' := by
  obtain ⟨i0, hi, hz0, hz1, hz2⟩ := info_parts (P := Tryd.prog) (e := 34) (z := .agg #[.int .i64 0, .bool false, .int .u64 0, .string ⟨#[]⟩, .int .i64 0]) (size := 5) (bytes := 48) (by kernel_rfl)
  obtain ⟨a, c, rfl, hc⟩ := hr
  rcases Nat.eq_zero_or_pos es.length with h0 | h0
  · have : es = [] := List.eq_nil_of_length_eq_zero h0
    subst this
    exact ⟨_, [], w, Own.run_append_nought 22 ty i0 Tryd.underlying22 hi a c, .bare none rfl rfl, Own.Turn.refl (Own.Has.nil w)⟩
  · have hfl := flat_len es
    obtain ⟨b, off, rfl, _⟩ := hc 0 _ (List.getElem?_eq_getElem (by omega))
    obtain ⟨v', h', w', hr, s', t'⟩ := Own.run_append_slk (P := Tryd.prog) (w := w) (k := 5) (e := 34) (n := 0) (xs := []) (v := .slice none 0 0) (h := []) 22 ty i0 _ 48 Tryd.underlying22 hi hz0 hz1 hz2 rfl (.bare none rfl rfl) (Own.Has.nil w)
      ⟨b, off, none⟩ c es.length (es.flatMap Evt.cells) hfl (fun j u hj => by
        obtain ⟨b', off', e, h⟩ := hc j u hj
        injection e with e
        injection e with e1 e2
        subst e1 e2
        rw [Addr.add_lit]
        exact h) (evs_one es) h0 (by simp only [maxLen]; omega) (by omega)
    rw [Nat.zero_add, List.nil_append] at s'
    exact ⟨v', h', w', hr, s', t'⟩

theorem wpList_append_by {P : Program} {w : World} {ops : Array Oper} {rest : List Oper} {o : Oper} {a : Act} {Q : Exit → Act → World → Prop} (hgd : o.guard = none) (s x : Operand) (t : TypeId)
    (ho : o.op = .call { callee := .builtin .append, args := #[s, x], argTypes := #[t, t] }) (vs vx : Value) (hs : a.eval s = vs) (hx : a.eval x = vx) (v' : Value) (w' : World)
    (hr : (Builtin.append_ #[t, t] o.type #[vs, vx]).run P w = .ok v' w') (hK : wpList P ops Q rest (a.put o.dst v') w') : wpList P ops Q (o :: rest) a w := by
  refine wpList_plain hgd fun K hK' => ?_
  unfold Oper.wp execOp
  simp only [ho, resolve, invoke, builtin, Sem.run_bind, Sem.run_pure, Result.andThen_ok, List.map_toArray, List.map_cons, List.map_nil, hs, hx, hr]
  exact hK' _ _ hK

set_option maxRecDepth 100000 in
set_option maxHeartbeats 1000000 in
theorem copy_any (w : World) (v : Value) (es : List Evt) (hr : Reads w v es) (hn : es.length ≤ 100000) :
    Calls Tryd.prog 29 #[v] w fun e w' => ∃ v' h', e = .returned v' ∧ Own.Slk 5 34 es.length (es.flatMap Evt.cells) v' h' ∧ Own.Turn [] h' w w' := by
  have HC := Lib.hid (fun ty => run_copy w v es hr hn ty)
  obtain ⟨a, c, rfl, _⟩ := hr
  go_enter Tryd.func29, Tryd.ntmps29
  obtain ⟨v', h', w', hr, s', t'⟩ := HC.out 22
  have HS := Lib.hid s'
  have HT := Lib.hid t'
  have HR := Lib.hid hr
  obtain ⟨a', c', rfl⟩ := s'.len
  clear s' t' hr
  go_wp2_with (at_builtin; go_loud (refine wpList_append_by rfl _ _ 22 rfl (.slice none 0 0) (.slice a es.length c) rfl rfl _ _ HR.out ?_))
  go_wp2
  go_ret
  exact ⟨_, h', rfl, HS.out, HT.out⟩

/-- The mark that stands behind a list that was lent. -/
def mark : Evt := ⟨0, false, 0, ⟨#[]⟩, -77⟩

set_option maxRecDepth 100000 in
set_option maxHeartbeats 1000000 in
theorem lent_any (w : World) (v : Value) (es : List Evt) (hr : Reads w v es) (hn : es.length ≤ 1000) :
    Calls Tryd.prog 16 #[v] w fun e w' => ∃ b, (∃ m, e = .returned (.slice (some ⟨b, 0, none⟩) es.length (es.length + 1 + m))) ∧
      ∃ spare, Own.Turn [] [Own.row b 34 (es.flatMap Evt.cells ++ (mark.cells ++ spare))] w w' := by
  have HC := Lib.hid (copy_any w v es hr (by omega))
  obtain ⟨i0, hi, hz0, hz1, hz2⟩ := info_parts (P := Tryd.prog) (e := 34) (z := .agg #[.int .i64 0, .bool false, .int .u64 0, .string ⟨#[]⟩, .int .i64 0]) (size := 5) (bytes := 48) (by kernel_rfl)
  have Hi := Lib.hid (And.intro hi (And.intro hz0 (And.intro hz1 hz2)))
  obtain ⟨a, c, rfl, _⟩ := hr
  obtain ⟨n, hne⟩ : ∃ n, n = es.length := ⟨_, rfl⟩
  have HF := Lib.hid (flat_len es)
  rw [← hne] at HC HF hn ⊢
  clear hi hz0 hz1 hz2 hne
  go_enter Tryd.func16, Tryd.ntmps16
  go_wp2_with (fail)
  refine HC.out.mono ?_
  rintro e W1 ⟨v', h', rfl, s1, t1⟩
  obtain ⟨a', c', rfl⟩ := s1.len
  have S1 := Lib.hid s1
  have T1 := Lib.hid (show Own.Turn [] (Own.row W1.heap.size 34 mark.cells :: (h' ++ [])) w (W1.alloc (.cells mark.cells.toArray 34)) by
    rw [List.append_nil]
    exact t1.alloc _)
  clear s1 t1
  go_wp2_with (at_builtin; go_loud (refine Own.wpList_append_onek rfl _ _ 22 rfl 34 i0 (.agg #[.int .i64 0, .bool false, .int .u64 0, .string ⟨#[]⟩, .int .i64 0]) 5 48 Tryd.underlying22 Hi.out.1 Hi.out.2.1 Hi.out.2.2.1 Hi.out.2.2.2 rfl (.slice a' n c') n (es.flatMap Evt.cells) h' [] rfl S1.out W1.heap.size mark.cells T1.out.has rfl rfl ?hy ?c1 ?c2 ?_))
  case hy => intro u hu; exact evs_one [mark] u (by simpa using hu)
  case c1 => simp only [maxLen]; omega
  case c2 => omega
  intro ad2 c2 h2 w2 s2 t2
  obtain ⟨b, m, spare, e1, rfl, hsp, hm⟩ := s2.at_ (by omega)
  injection e1 with e2 _ e3
  subst e2 e3
  have t1 := T1.out
  rw [List.append_nil] at t1
  have T2 := Lib.hid ((t1.trans t2).forget (b := [_]))
  clear s2 t2 hsp hm t1
  go_wp2
  go_ret
  refine ⟨b, ⟨m, rfl⟩, spare, ?_⟩
  have := T2.out
  rw [List.append_assoc] at this
  exact this

set_option maxRecDepth 100000 in
set_option maxHeartbeats 1000000 in
theorem same_any (w : World) (v v2 : Value) (es : List Evt) (hr : Reads w v es) (hr2 : Reads w v2 es) (hn : es.length ≤ 1000) :
    Calls Tryd.prog 30 #[v, v2] w fun e w' => e = .returned (.bool true) ∧ Below w.heap.size w w' := by
  have H1 := Lib.hid hr
  have H2 := Lib.hid hr2
  obtain ⟨a, c, rfl, _⟩ := hr
  obtain ⟨a2, c2, rfl, _⟩ := hr2
  obtain ⟨n, hne⟩ : ∃ n, n = es.length := ⟨_, rfl⟩
  rw [← hne] at H1 H2 hn ⊢
  have HN := Lib.hid hne
  clear hne
  go_enter Tryd.func30, Tryd.ntmps30
  go_wp2_with (fail)
  go_loopw [5] (fun i wr => ∃ j : Nat, i = .int .i64 j ∧ j ≤ n ∧ Below w.heap.size w wr) (fun i _ => n - (intOf i).toNat)
  case atStart => exact ⟨0, rfl, Nat.zero_le _, Below.refl _ _⟩
  case round =>
    obtain ⟨j, rfl, hj, hb⟩ := hrel
    have HBw := Lib.hid hb
    by_cases hjn : j < n
    · have hje : j < es.length := by have := HN.out; omega
      obtain ⟨b, off, rfl, x0, x1, x2, x3, x4⟩ := (H1.out.below hb).at_ j hje
      obtain ⟨b2, off2, rfl, y0, y1, y2, y3, y4⟩ := (H2.out.below hb).at_ j hje
      generalize es[j] = e at x0 x1 x2 x3 x4 y0 y1 y2 y3 y4
      obtain ⟨k, y, m, t, c⟩ := e
      have hlt : (j : Int) < (n : Int) := by omega
      clear hb
      go_wp2_with (fail)
      go_quiet (fail)
      go_wp2_with (fail)
      exact ⟨⟨j + 1, by go_num, by omega, below_drewN HBw.out nq⟩, by simp [intOf]; omega⟩
    · have hge : (n : Int) ≤ (j : Int) := by omega
      clear hb
      go_wp2_with (fail)
      go_ret
      exact ⟨rfl, HBw.out⟩

set_option maxRecDepth 100000 in
set_option maxHeartbeats 1000000 in
theorem stays_any (w : World) (v2 : Value) (es : List Evt) (b m : Nat) (spare : List Value) (hw : Own.Has w [Own.row b 34 (es.flatMap Evt.cells ++ (mark.cells ++ spare))]) (hr2 : Reads w v2 es) (hn : es.length ≤ 1000) :
    Calls Tryd.prog 18 #[.slice (some ⟨b, 0, none⟩) es.length (es.length + 1 + m), v2] w fun e w' => e = .returned (.bool true) ∧ Below w.heap.size w w' := by
  have hr : Reads w (.slice (some ⟨b, 0, none⟩) es.length (es.length + 1 + m)) es := by
    refine ⟨_, _, rfl, fun j u hj => ⟨b, 0, rfl, ?_⟩⟩
    rw [Nat.zero_add]
    exact hw.cell b _ _ (List.mem_singleton.2 rfl) j u (by rw [List.getElem?_append_left (List.getElem?_eq_some_iff.1 hj).1]; exact hj)
  have HS := Lib.hid (same_any w _ v2 es hr hr2 hn)
  have hf := flat_len es
  have c0 := hw.cell b _ _ (List.mem_singleton.2 rfl) (es.length * 5 + 4) (.int .i64 (-77)) (by rw [← hf, List.getElem?_append_right (by omega)]; simp [mark, Evt.cells])
  obtain ⟨n, hne⟩ : ∃ n, n = es.length := ⟨_, rfl⟩
  rw [← hne] at HS hn c0 ⊢
  obtain ⟨a2, c2, rfl, _⟩ := hr2
  have HC := Lib.hid (fun (u : World) (k : Below w.heap.size w u) => (by rw [k.cell (World.block_lt_of_cell? w _ c0)]; exact c0 : u.cell? ⟨b, n * 5 + 4, none⟩ = some (.int .i64 (-77))))
  clear hr hw hf hne c0
  go_enter Tryd.func18, Tryd.ntmps18
  go_wp2_with (fail)
  refine HS.out.mono ?_
  rintro e W1 ⟨rfl, b1⟩
  have c1 := HC.out _ b1
  go_wp2
  go_ret
  exact ⟨rfl, b1⟩
end Json
end Go.Proofs.YtopaadmnlghdaaaDoor
