/- HelloSetups: the walk: two setups have the same bytes just if they are the same. -/
import Derived.Test.YthnbpnfaghjamaaGreatM34
import Derived.Test.YthnbpnfaghjamaaGreatM35
namespace Go.Proofs.YthnbpnfaghjamaaGreat.helloSetups
open Go.RowKit Pip

set_option maxRecDepth 100000 in
set_option maxHeartbeats 4000000 in
theorem walk (a0 a1 : Setup) (_w0 : a0.Fine) (_w1 : a1.Fine) (w : World) : Calls Tryz.prog 13 #[a0.val, a1.val] w fun e w' => e = .returned (.bool true) ∧ Below w.heap.size w w' := by
  have HA := Lib.hid (fun u => alive_any u)
  have BT := Lib.hid (fun (u v : World) (b : Below w.heap.size w u) (b2 : Below u.heap.size u v) => (b.trans (b2.mono b.size) : Below w.heap.size w v))
  have B0 := Lib.hid (fun o u (b : Below w.heap.size w u) => b.alloc b.size o)
  have H0 := Lib.hid (fun u => hput_all a0 u)
  have H1 := Lib.hid (fun u => hput_all a1 u)
  obtain ⟨R0, hR0⟩ : ∃ R, R = right a0 := ⟨_, rfl⟩
  obtain ⟨R1, hR1⟩ : ∃ R, R = right a1 := ⟨_, rfl⟩
  obtain ⟨X, hX⟩ : ∃ X, X = putBytes a0 := ⟨_, rfl⟩
  obtain ⟨Y, hY⟩ : ∃ X, X = putBytes a1 := ⟨_, rfl⟩
  have hfacts := Lib.hid (fun (h0 : R0 = true) (h1 : R1 = true) => (show X.size = 8 ∧ ((X.toList == Y.toList) = true ↔ a0 = a1) by
    rw [hR0] at h0
    rw [hR1] at h1
    rw [hX, hY, putBytes_right h0, putBytes_right h1, ByteArray.toList_eq, ByteArray.toList_eq, helloBytes_put, helloBytes_put, beq_iff_eq, bytes_inj a0 a1 h0 h1]
    exact ⟨rfl, Iff.rfl⟩))
  rw [← hR0, ← hX] at H0
  rw [← hR1, ← hY] at H1
  obtain ⟨f, t, d, g, l⟩ := a0
  obtain ⟨f', t', d', g', l'⟩ := a1
  simp only [Setup.mk.injEq] at hfacts
  have T0 := Lib.hid ((Own.Turn.refl (Own.Has.nil w)).allocRow w.heap.size rfl 23 [.int .i64 f, .int .i64 t, .int .i64 d, .int .i64 g, .int .i64 l])
  have T1 := Lib.hid (T0.out.allocRow (w.heap.size + 1) (by rw [Json.size_alloc]) 23 [.int .i64 f', .int .i64 t', .int .i64 d', .int .i64 g', .int .i64 l'])
  have CF := Lib.hid (fun (u : World) (tt : Own.Turn [] [Own.row (w.heap.size + 1) 23 [.int .i64 f', .int .i64 t', .int .i64 d', .int .i64 g', .int .i64 l'], Own.row w.heap.size 23 [.int .i64 f, .int .i64 t, .int .i64 d, .int .i64 g, .int .i64 l]] w u) => by
    have c0 := tt.has.cell w.heap.size _ _ (List.mem_cons_of_mem _ (List.mem_cons_self ..)) 0 _ rfl
    have c1 := tt.has.cell w.heap.size _ _ (List.mem_cons_of_mem _ (List.mem_cons_self ..)) 1 _ rfl
    have c2 := tt.has.cell w.heap.size _ _ (List.mem_cons_of_mem _ (List.mem_cons_self ..)) 2 _ rfl
    have c3 := tt.has.cell w.heap.size _ _ (List.mem_cons_of_mem _ (List.mem_cons_self ..)) 3 _ rfl
    have c4 := tt.has.cell w.heap.size _ _ (List.mem_cons_of_mem _ (List.mem_cons_self ..)) 4 _ rfl
    have d0 := tt.has.cell (w.heap.size + 1) _ _ (List.mem_cons_self ..) 0 _ rfl
    have d1 := tt.has.cell (w.heap.size + 1) _ _ (List.mem_cons_self ..) 1 _ rfl
    have d2 := tt.has.cell (w.heap.size + 1) _ _ (List.mem_cons_self ..) 2 _ rfl
    have d3 := tt.has.cell (w.heap.size + 1) _ _ (List.mem_cons_self ..) 3 _ rfl
    have d4 := tt.has.cell (w.heap.size + 1) _ _ (List.mem_cons_self ..) 4 _ rfl
    exact And.intro c0 (And.intro c1 (And.intro c2 (And.intro c3 (And.intro c4 (And.intro d0 (And.intro d1 (And.intro d2 (And.intro d3 d4)))))))))
  unfold Setup.val at H0 H1 ⊢
  simp only at H0 H1 ⊢
  clear hX hY hR0 hR1
  go_enter Tryz.func13, Tryz.ntmps13
  go_wp2_with (fail)
  refine (H0.out _).mono ?_
  rintro e w1 ⟨rfl, b1⟩
  have T2 := Lib.hid (T1.out.trans (Own.Turn.of_below T1.out.has b1))
  obtain ⟨c0, c1, c2, c3, c4, d0, d1, d2, d3, d4⟩ := CF.out _ T2.out
  clear b1
  go_wp2_with (fail)
  refine (H1.out _).mono ?_
  rintro e w2 ⟨rfl, b2⟩
  have T3 := Lib.hid (T2.out.trans (Own.Turn.of_below T2.out.has b2))
  clear b2 c0 c1 c2 c3 c4 d0 d1 d2 d3 d4
  obtain ⟨c0, c1, c2, c3, c4, d0, d1, d2, d3, d4⟩ := CF.out _ T3.out
  have AL := Lib.hid (fun (W : World) (b : Below w2.heap.size w2 W) => CF.out _ (T3.out.trans (Own.Turn.of_below T3.out.has b)))
  have HB3 := Lib.hid (fun (W : World) (b : Below w2.heap.size w2 W) => (T3.out.trans (Own.Turn.of_below T3.out.has b)).below (B := w.heap.size) (fun x hx => by cases hx) (Nat.le_refl _))
  cases R0
  · go_wp2_with (fail)
    refine (HA.out _).mono ?_
    rintro e w3 ⟨rfl, b3⟩
    go_wp2
    go_ret
    exact ⟨rfl, HB3.out _ b3⟩
  · cases R1
    · go_wp2_with (fail)
      refine (HA.out _).mono ?_
      rintro e w3 ⟨rfl, b3⟩
      go_wp2
      go_ret
      exact ⟨rfl, HB3.out _ b3⟩
    · obtain ⟨zX, hxy⟩ := hfacts.out rfl rfl
      have hF : ¬ (f = f' ∧ t = t' ∧ d = d' ∧ g = g' ∧ l = l') → (X.toList == Y.toList) = false := fun h => by
        cases hc : (X.toList == Y.toList) with
        | false => rfl
        | true => exact absurd (hxy.1 hc) h
      have hk : (f = f' ∧ t = t' ∧ d = d' ∧ g = g' ∧ l = l' ∧ (X.toList == Y.toList) = true) ∨ (f ≠ f' ∧ (X.toList == Y.toList) = false) ∨ (f = f' ∧ t ≠ t' ∧ (X.toList == Y.toList) = false) ∨ (f = f' ∧ t = t' ∧ d ≠ d' ∧ (X.toList == Y.toList) = false) ∨
          (f = f' ∧ t = t' ∧ d = d' ∧ g ≠ g' ∧ (X.toList == Y.toList) = false) ∨ (f = f' ∧ t = t' ∧ d = d' ∧ g = g' ∧ l ≠ l' ∧ (X.toList == Y.toList) = false) := by
        by_cases e0 : f = f'
        · by_cases e1 : t = t'
          · by_cases e2 : d = d'
            · by_cases e3 : g = g'
              · by_cases e4 : l = l'
                · exact .inl ⟨e0, e1, e2, e3, e4, hxy.2 ⟨e0, e1, e2, e3, e4⟩⟩
                · exact .inr (.inr (.inr (.inr (.inr ⟨e0, e1, e2, e3, e4, hF fun h => e4 h.2.2.2.2⟩))))
              · exact .inr (.inr (.inr (.inr (.inl ⟨e0, e1, e2, e3, hF fun h => e3 h.2.2.2.1⟩))))
            · exact .inr (.inr (.inr (.inl ⟨e0, e1, e2, hF fun h => e2 h.2.2.1⟩)))
          · exact .inr (.inr (.inl ⟨e0, e1, hF fun h => e1 h.2.1⟩))
        · exact .inr (.inl ⟨e0, hF fun h => e0 h.1⟩)
      clear hxy hF c0 c1 c2 c3 c4 d0 d1 d2 d3 d4 hfacts _w0 _w1
      rcases hk with ⟨rfl, rfl, rfl, rfl, rfl, hx⟩ | ⟨n0, hx⟩ | ⟨rfl, n0, hx⟩ | ⟨rfl, rfl, n0, hx⟩ | ⟨rfl, rfl, rfl, n0, hx⟩ | ⟨rfl, rfl, rfl, rfl, n0, hx⟩
      all_goals
        go_wp2_with (fail)
        refine (HA.out _).mono ?_
        rintro e w3 ⟨rfl, b3⟩
        obtain ⟨c0, c1, c2, c3, c4, d0, d1, d2, d3, d4⟩ := AL.out _ b3
        go_wp2
        go_ret
        exact ⟨rfl, HB3.out _ b3⟩
end Go.Proofs.YthnbpnfaghjamaaGreat.helloSetups
