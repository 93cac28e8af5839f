/- JsonoutTells: the walk. -/
import Derived.Test.YtopaadmnlghdaaaDoorJsonT
import Derived.Test.YtopaadmnlghdaaaDoorJsonL
namespace Go.Proofs.YtopaadmnlghdaaaDoor.jsonoutTells
open Go.RowKit Json

/-- Both writers, made behind the world w. -/
def Two (w : World) (wb rb : Nat) (W V : Wr) (u : World) : Prop := ∃ h1 h2, W.Is wb h1 ∧ RIs V rb h2 ∧ Own.Turn [] (h1 ++ h2) w u

theorem Two.below {w u : World} {wb rb : Nat} {W V : Wr} (h : Two w wb rb W V u) : Below w.heap.size w u := by
  obtain ⟨h1, h2, _, _, t⟩ := h
  exact t.below (fun x hx => by cases hx) (Nat.le_refl _)

theorem Two.stays {w u u' : World} {wb rb : Nat} {W V : Wr} (h : Two w wb rb W V u) (b : Below u.heap.size u u') : Two w wb rb W V u' := by
  obtain ⟨h1, h2, i1, i2, t⟩ := h
  exact ⟨h1, h2, i1, i2, t.trans (Own.Turn.of_below t.has b)⟩

theorem Two.new {w v : World} {k : Nat} (hk : v.heap.size = k) (b : Below w.heap.size w v) :
    Two w k (k + 1) Wr.zero Wr.zero ((v.alloc (.cells #[.slice none 0 0, .bool false] 27)).alloc (.cells #[.int .i64 1, .slice none 0 0, .bool false] 31)) := by
  have t0 := ((Own.Turn.of_below (Own.Has.nil w) b).allocAt k hk (.cells #[.slice none 0 0, .bool false] 27)).allocAt (k + 1) (by rw [size_alloc, hk]) (.cells #[.int .i64 1, .slice none 0 0, .bool false] 31)
  exact ⟨_, _, Wr.Is.zero k, RIs.zero (k + 1), t0.perm (.refl _) (List.Perm.swap ..)⟩

theorem Two.step {w u : World} {wb rb n : Nat} {W V : Wr} (h : Two w wb rb W V u) (T : Tabs w) (hf : W.Fits n) (hn : n ≤ 100000) (p : Part) (hp : p.small) :
    Calls Tryd.prog 11 #[.pointer (some ⟨wb, 0, none⟩), p.val] u fun e u' => e = .returned (.tuple #[.string ⟨(W.step text p).1.toArray⟩, .int .i64 ((W.step text p).2.1 : Int)]) ∧ Two w wb rb (W.step text p).2.2 V u' := by
  have hb := h.below
  obtain ⟨h1, h2, i1, i2, t⟩ := h
  refine (step_any i1 t.has.left hf hn T.under (fun x hx => t.least (fun x hx => by cases hx) (Nat.le_refl _) x (by rw [Own.blocks, List.map_append]; exact List.mem_append_left _ hx)) (T.below hb) p hp).mono ?_
  rintro e u' ⟨rfl, h', i', t'⟩
  exact ⟨rfl, h', h2, i', i2, t.trans (t'.frame t.has)⟩

theorem Two.rstep {w u : World} {wb rb n : Nat} {W V : Wr} (h : Two w wb rb W V u) (hf : V.Fits n) (hn : n ≤ 100000) (e : Evt) (hs : e.small) :
    Calls Tryd.prog 12 #[.pointer (some ⟨rb, 0, none⟩), e.val] u fun r u' => r = .returned (.tuple #[.string ⟨(V.take e).1.toArray⟩, .int .i64 ((V.take e).2.1 : Int)]) ∧ Two w wb rb W (V.take e).2.2 u' := by
  obtain ⟨h1, h2, i1, i2, t⟩ := h
  refine (rstep_any i2 t.has.right hf hn e hs).mono ?_
  rintro r u' ⟨rfl, h', i', t'⟩
  exact ⟨rfl, h1, h', i1, i', t.trans (t'.behind t.has)⟩

theorem Two.done {w u : World} {wb rb : Nat} {W V : Wr} (h : Two w wb rb W V u) (n : Nat) :
    Calls Tryd.prog 14 #[.pointer (some ⟨wb, 0, none⟩)] (u.drewN n) fun e u' => e = .returned (.bool W.done) ∧ u' = u.drewN n := by
  obtain ⟨h1, h2, i1, i2, t⟩ := h
  exact done_any i1 (t.has.left.drewN n)

theorem Two.rdone {w u : World} {wb rb : Nat} {W V : Wr} (h : Two w wb rb W V u) : u.cell? ⟨rb, 2, none⟩ = some (.bool V.done) := by
  obtain ⟨h1, h2, i1, ⟨l, lv, hl, _, rfl, _⟩, t⟩ := h
  exact t.has.right.cell rb _ _ (List.mem_cons_self ..) 2 _ rfl

theorem Reads.of_lent {w : World} {es : List Evt} {b n m : Nat} {rest : List Value} (hn : n = es.length) (hw : Own.Has w [Own.row b 34 (es.flatMap Evt.cells ++ rest)]) : Reads w (.slice (some ⟨b, 0, none⟩) n m) es := by
  subst hn
  refine ⟨_, _, rfl, fun j u hj => ⟨b, 0, rfl, ?_⟩⟩
  rw [Nat.zero_add]
  exact hw.cell b _ _ (List.mem_singleton.2 rfl) j u (by rw [List.getElem?_append_left (List.getElem?_eq_some_iff.1 hj).1]; exact hj)

set_option maxRecDepth 100000 in
set_option maxHeartbeats 8000000 in
theorem walk (v0 : Value) (es0 : List Evt) (w : World) (r0 : Reads w v0 es0) (w0 : ∀ e ∈ es0, e.Fine) (_l0 : es0.length ≤ maxLen) (T : Tabs w) :
    Calls Tryd.prog 3 #[v0] w fun e w' => e = .returned (.bool true) ∧ Below w.heap.size w w' := by
  have HL := Lib.hid (fun u (t : Tabs u) => alive_any u t)
  have HT := Lib.hid T
  have HR := Lib.hid r0
  have HF := Lib.hid w0
  obtain ⟨a, c, rfl, _⟩ := r0
  obtain ⟨n, hne⟩ : ∃ n, n = es0.length := ⟨_, rfl⟩
  rw [← hne] at HR ⊢
  have HN := Lib.hid hne
  clear T w0 hne
  by_cases hn : n ≤ 100
  · have HO := Lib.hid (fun e u => of_any e u)
    have HTi := Lib.hid (fun e u => tidy_any e u)
    go_enter Tryd.func3, Tryd.ntmps3
    go_wp2_with (fail)
    refine (HL.out _ HT.out).mono ?_
    rintro e u1 ⟨rfl, b1⟩
    have HTw := Lib.hid (Two.new rfl b1)
    go_wp2_with (fail)
    go_loopw [5] (fun i wr => ∃ (j : Nat) (W : Wr), i = .int .i64 j ∧ j ≤ n ∧ W.Fits j ∧ Two w u1.heap.size (u1.heap.size + 1) W W wr ∧ (∀ e ∈ es0.take j, e.text.size ≤ 400)) (fun i _ => n - (intOf i).toNat)
    case atStart => exact ⟨0, Wr.zero, rfl, Nat.zero_le _, .zero, HTw.out, by simp⟩
    case round =>
      obtain ⟨j, W, rfl, hj, hf, htw, hall⟩ := hrel
      have Hf := Lib.hid hf
      have Htw := Lib.hid htw
      have Hall := Lib.hid hall
      clear hf htw hall
      by_cases hjn : j < n
      · have hje : j < es0.length := by have := HN.out; omega
        obtain ⟨b, off, rfl, x0, x1, x2, x3, x4⟩ := (HR.out.below Htw.out.below).at_ j hje
        have hrd := Lib.hid (fun u (k : Below w.heap.size w u) => (HR.out.below k).at_ j hje)
        have hfine := Lib.hid (HF.out _ (List.getElem_mem hje))
        have htk := Lib.hid (show es0.take (j + 1) = es0.take j ++ [es0[j]] by rw [List.take_succ_eq_append_getElem hje])
        generalize es0[j] = e at x0 x1 x2 x3 x4 hrd hfine htk
        have hlt : (j : Int) < (n : Int) := by omega
        by_cases ht : e.text.size ≤ 400
        · have hsm := Lib.hid (hfine.out.small (show e.text.size ≤ 1000 by omega))
          go_wp2_with (fail)
          refine (HO.out e _).mono ?_
          rintro r u2 ⟨rfl, b2⟩
          have S2 := Lib.hid (Htw.out.stays b2)
          have hst := Lib.hid (S2.out.step HT.out Hf.out (show j ≤ 100000 by omega) e.orFive (e.orFive_small hsm.out))
          have hrst := Lib.hid (fun u (S : Two w u1.heap.size (u1.heap.size + 1) (W.take e).2.2 W u) => (by
            have := S.rstep Hf.out (show j ≤ 100000 by omega) e.tidy (Evt.tidy_fine hsm.out)
            rw [Wr.take_tidy] at this
            exact this : Calls Tryd.prog 12 #[.pointer (some ⟨u1.heap.size + 1, 0, none⟩), e.tidy.val] u fun r u' => r = .returned (.tuple #[.string ⟨(W.take e).1.toArray⟩, .int .i64 ((W.take e).2.1 : Int)]) ∧ Two w u1.heap.size (u1.heap.size + 1) (W.take e).2.2 (W.take e).2.2 u'))
          have hfit := Lib.hid (Hf.out.take e)
          rw [Wr.step_orFive] at hst
          generalize W.take e = K at hst hrst hfit
          obtain ⟨s, f, W'⟩ := K
          simp only at hst hrst hfit
          generalize (⟨s.toArray⟩ : ByteArray) = S5 at hst hrst
          have hor : (e.part = none ∧ e.orFive = .other false) ∨ (∃ p, e.part = some p ∧ e.orFive = p) := by
            unfold Evt.orFive
            cases e.part with
            | none => exact .inl ⟨rfl, rfl⟩
            | some p => exact .inr ⟨p, rfl, rfl⟩
          generalize e.part = P at hor
          clear x0 x1 x2 x3 x4 b2
          rcases hor with ⟨rfl, ho⟩ | ⟨p, rfl, ho⟩
          all_goals
            rw [ho] at hst
            clear ho
            dsimp only [ofVal]
            go_wp2_with (fail)
            refine hst.out.mono ?_
            rintro r u3 ⟨rfl, g3⟩
            obtain ⟨b', off', e', y0, y1, y2, y3, y4⟩ := hrd.out u3 g3.below
            injection e' with e'
            injection e' with e1 e2
            subst e1 e2
            go_wp2_with (fail)
            refine (HTi.out e _).mono ?_
            rintro r u4 ⟨rfl, b4⟩
            have S4 := Lib.hid (g3.stays b4)
            clear y0 y1 y2 y3 y4 b4 g3
            go_wp2_with (fail)
            refine (hrst.out _ S4.out).mono ?_
            rintro r u5 ⟨rfl, g5⟩
            have G5 := Lib.hid g5
            have rd := g5.rdone
            have HDn := Lib.hid (fun n => g5.done n)
            clear g5
            go_wp2_with (fail)
            go_quiet (exact Calls.quiet_of_same (HDn.out _))
            have G6 := Lib.hid (show Two w u1.heap.size (u1.heap.size + 1) W' W' (u5.drewN nq) by
              obtain ⟨h1, h2, i1, i2, t⟩ := G5.out
              exact ⟨h1, h2, i1, i2, t.drewN nq⟩)
            go_wp2_with (fail)
            refine ⟨⟨j + 1, W', by go_num, by omega, hfit.out, G6.out, ?_⟩, by simp [intOf]; omega⟩
            rw [htk.out]
            intro x hx
            rcases List.mem_append.1 hx with hx | hx
            · exact Hall.out x hx
            · rw [List.mem_singleton.1 hx]; exact ht
        · go_wp2_with (fail)
          go_ret
          exact ⟨rfl, Htw.out.below⟩
      · have hjn' : j = n := by omega
        have hge : (n : Int) ≤ (j : Int) := by omega
        have hsm := Lib.hid (show ∀ e ∈ es0, e.small from fun e he => (HF.out e he).small (by
          have := Hall.out e (by rw [hjn', HN.out, List.take_length]; exact he)
          omega))
        have HBw := Lib.hid Htw.out.below
        have HX := Lib.hid (RHeld.new rfl HBw.out)
        generalize hRe : Wr.zero.all text es0 = R
        have HRe := Lib.hid hRe
        have HLn := Lib.hid (fun u (k : Below w.heap.size w u) => lent_any u _ es0 (HR.out.below k) (by have := HN.out; omega))
        have HRk := Lib.hid (fun u (k : Below w.heap.size w u) => HR.out.below k)
        have HAl := Lib.hid (fun u v (k : Below w.heap.size w u) (r : Reads u v es0) => (by
          have := all_any es0 v u r (by have := HN.out; omega) hsm.out (HT.out.below k)
          rw [hRe] at this
          exact this : Calls Tryd.prog 17 #[v] u fun e w' => e = .returned (.tuple #[.string ⟨R.1.toArray⟩, .int .i64 (R.2 : Int)]) ∧ Below u.heap.size u w'))
        have HSt := Lib.hid (fun u b m spare (hw : Own.Has u [Own.row b 34 (es0.flatMap Evt.cells ++ (Json.mark.cells ++ spare))]) (k : Below w.heap.size w u) => stays_any u _ es0 b m spare hw (HR.out.below k) (by have := HN.out; omega))
        rw [← HN.out] at HLn HSt
        have HMy := Lib.hid (fun e u => may_any e u)
        clear hjn' hRe
        obtain ⟨w9, hw9⟩ : ∃ w9, w9 = wr := ⟨_, rfl⟩
        subst hw9
        go_wp2_with (fail)
        go_loopw [13, 14, 15] (fun all bad i wx => ∃ (j : Nat) (O : ByteArray) (bd : Nat) (W : Wr), all = .string O ∧ bad = .int .i64 (bd : Int) ∧ i = .int .i64 j ∧ j ≤ n ∧ W.Fits j ∧ RHeld w w9.heap.size W wx ∧ O.size ≤ 6011 * j ∧
          (bd = 0 → R = (O.data.toList ++ (W.all text (es0.drop j)).1, (W.all text (es0.drop j)).2)) ∧ (bd ≠ 0 → R = (O.data.toList, bd))) (fun _ _ i _ => n - (intOf i).toNat)
        case atStart => exact ⟨0, ⟨#[]⟩, 0, Wr.zero, rfl, rfl, rfl, Nat.zero_le _, .zero, HX.out, Nat.le_refl _, fun _ => HRe.out.symm, fun h => absurd rfl h⟩
        case round =>
          obtain ⟨j, O, bd, V, rfl, rfl, rfl, hj, hfv, hv, hO, hR0, hR1⟩ := hrel
          have HV := Lib.hid hv
          have HFV := Lib.hid hfv
          have R0 := Lib.hid hR0
          have R1 := Lib.hid hR1
          clear hfv hv hR0 hR1
          have hO2 : O.size ≤ 6011000 := by omega
          rcases Nat.eq_zero_or_pos bd with hb0 | hb0
          · have hR := Lib.hid (R0.out hb0)
            subst hb0
            by_cases hjn2 : j < n
            · have hje : j < es0.length := by have := HN.out; omega
              obtain ⟨b, off, rfl, x0, x1, x2, x3, x4⟩ := (HRk.out _ HV.out.below).at_ j hje
              have hrd := Lib.hid (fun u (k : Below w.heap.size w u) => (HRk.out u k).at_ j hje)
              have hse := Lib.hid (hsm.out _ (List.getElem_mem hje))
              have hdr := Lib.hid (List.drop_eq_getElem_cons hje)
              generalize es0[j] = e at x0 x1 x2 x3 x4 hrd hse hdr
              have hlt : (j : Int) < (n : Int) := by omega
              go_wp2_with (fail)
              refine (HMy.out e _).mono ?_
              rintro r u2 ⟨rfl, b2⟩
              have V2 := Lib.hid (HV.out.stays b2)
              clear x0 x1 x2 x3 x4 b2
              cases hp : e.part with
              | none =>
                have hRf := Lib.hid (show R = (O.data.toList, 1) from hR.out.trans (by rw [hdr.out, Wr.all_none _ _ _ _ hp, List.append_nil]))
                have HBu := Lib.hid V2.out.below
                clear hp
                simp only [Option.isSome_none]
                go_wp2_with (fail)
                refine (HLn.out _ HBu.out).mono ?_
                rintro r U1 ⟨b, ⟨m, rfl⟩, spare, t1⟩
                have k1 := Lib.hid (HBu.out.trans ((t1.below (fun x hx => by cases hx) (Nat.le_refl _)).mono HBu.out.size))
                have TT1 := Lib.hid t1
                clear t1
                go_wp2_with (fail)
                have hA := Lib.hid (HAl.out U1 _ k1.out (Reads.of_lent (m := n + 1 + m) HN.out TT1.out.has))
                rw [hRf.out] at hA
                simp only [Mem.mk_data] at hA
                refine hA.out.mono ?_
                rintro r U2 ⟨rfl, b2⟩
                have k2 := Lib.hid (k1.out.trans (b2.mono k1.out.size))
                have hs2 := Lib.hid (TT1.out.has.below b2)
                clear b2
                go_wp2_with (fail)
                refine (step_nil .null U2).mono ?_
                rintro r U3 ⟨rfl, b3⟩
                have k3 := Lib.hid (k2.out.trans (b3.mono k2.out.size))
                have hS := Lib.hid (HSt.out U3 b m spare (hs2.out.below b3) k3.out)
                clear b3
                go_wp2_with (fail)
                refine hS.out.mono ?_
                rintro r U4 ⟨rfl, b4⟩
                have k4 := Lib.hid (k3.out.trans (b4.mono k3.out.size))
                clear b4
                go_wp2_with (fail)
                refine (done_nil U4).mono ?_
                rintro r U5 ⟨rfl, rfl⟩
                go_wp2
                go_ret
                exact ⟨rfl, k4.out⟩
              | some p =>
                have htk : V.take e = V.step text p := by unfold Wr.take; rw [hp]
                have hst := Lib.hid (V2.out.step HFV.out (show j ≤ 100000 by omega) e hse.out)
                have hsl := Lib.hid (V.take_len e hse.out)
                have hfs := Lib.hid (HFV.out.take e)
                have hbad := Lib.hid (show (V.take e).2.1 ≠ 0 → (V.take e).1 = [] ∧ R = (O.data.toList, (V.take e).2.1) by
                  intro k
                  rw [htk] at k ⊢
                  refine And.intro (Wr.step_refused text V p k).1 (hR.out.trans ?_)
                  rw [hdr.out, Wr.all_bad _ _ _ _ p hp k, List.append_nil])
                have hgood := Lib.hid (show (V.take e).2.1 = 0 → R = (O.data.toList ++ ((V.take e).1 ++ ((V.take e).2.2.all text (es0.drop (j + 1))).1), ((V.take e).2.2.all text (es0.drop (j + 1))).2) by
                  intro k
                  rw [htk] at k ⊢
                  refine hR.out.trans ?_
                  rw [hdr.out, Wr.all_good _ _ _ _ p hp k])
                clear htk hp
                generalize V.take e = K at hst hsl hfs hbad hgood
                obtain ⟨s, f, V'⟩ := K
                simp only at hst hsl hfs hbad hgood
                obtain ⟨S5, hS5⟩ : ∃ S5 : ByteArray, S5 = ⟨s.toArray⟩ := ⟨_, rfl⟩
                have hS5s : S5.size ≤ 6011 := by rw [hS5]; exact hsl.out
                rw [← hS5] at hst
                have HS5 := Lib.hid hS5
                clear hS5
                simp only [Option.isSome_some]
                obtain ⟨b', off', e', y0, y1, y2, y3, y4⟩ := hrd.out u2 V2.out.below
                injection e' with e'
                injection e' with e1 e2
                subst e1 e2
                go_wp2_with (fail)
                refine hst.out.mono ?_
                rintro r u3 ⟨rfl, g3⟩
                have G3 := Lib.hid g3
                clear g3 y0 y1 y2 y3 y4
                go_wp2_with (fail)
                refine ⟨⟨j + 1, O ++ S5, f, V', rfl, rfl, by go_num, by omega, hfs.out, G3.out, by rw [ByteArray.size_append]; omega, fun k => ?_, fun k => ?_⟩, by simp [intOf]; omega⟩
                · rw [hgood.out k, HS5.out]
                  simp
                · have h := hbad.out k
                  rw [h.2, HS5.out, h.1]
                  simp
            · have hje : es0.drop j = [] := by rw [List.drop_eq_nil_iff]; have := HN.out; omega
              have hge : (n : Int) ≤ (j : Int) := by omega
              have hdn := HV.out.done
              have hRd := Lib.hid (show R = (O.data.toList, if V.done then 0 else 3) from hR.out.trans (by rw [hje, Wr.all_nil, List.append_nil]))
              have HBu := Lib.hid HV.out.below
              clear hje
              cases hvd : V.done
              · have hRf := Lib.hid (show R = (O.data.toList, 3) from hRd.out.trans (by rw [hvd]; rfl))
                rw [hvd] at hdn
                clear hvd
                go_wp2_with (fail)
                refine (HLn.out _ HBu.out).mono ?_
                rintro r U1 ⟨b, ⟨m, rfl⟩, spare, t1⟩
                have k1 := Lib.hid (HBu.out.trans ((t1.below (fun x hx => by cases hx) (Nat.le_refl _)).mono HBu.out.size))
                have TT1 := Lib.hid t1
                clear t1
                go_wp2_with (fail)
                have hA := Lib.hid (HAl.out U1 _ k1.out (Reads.of_lent (m := n + 1 + m) HN.out TT1.out.has))
                rw [hRf.out] at hA
                simp only [Mem.mk_data] at hA
                refine hA.out.mono ?_
                rintro r U2 ⟨rfl, b2⟩
                have k2 := Lib.hid (k1.out.trans (b2.mono k1.out.size))
                have hs2 := Lib.hid (TT1.out.has.below b2)
                clear b2
                go_wp2_with (fail)
                refine (step_nil .null U2).mono ?_
                rintro r U3 ⟨rfl, b3⟩
                have k3 := Lib.hid (k2.out.trans (b3.mono k2.out.size))
                have hS := Lib.hid (HSt.out U3 b m spare (hs2.out.below b3) k3.out)
                clear b3
                go_wp2_with (fail)
                refine hS.out.mono ?_
                rintro r U4 ⟨rfl, b4⟩
                have k4 := Lib.hid (k3.out.trans (b4.mono k3.out.size))
                clear b4
                go_wp2_with (fail)
                refine (done_nil U4).mono ?_
                rintro r U5 ⟨rfl, rfl⟩
                go_wp2
                go_ret
                exact ⟨rfl, k4.out⟩
              · have hRf := Lib.hid (show R = (O.data.toList, 0) from hRd.out.trans (by rw [hvd]; rfl))
                rw [hvd] at hdn
                clear hvd
                go_wp2_with (fail)
                refine (HLn.out _ HBu.out).mono ?_
                rintro r U1 ⟨b, ⟨m, rfl⟩, spare, t1⟩
                have k1 := Lib.hid (HBu.out.trans ((t1.below (fun x hx => by cases hx) (Nat.le_refl _)).mono HBu.out.size))
                have TT1 := Lib.hid t1
                clear t1
                go_wp2_with (fail)
                have hA := Lib.hid (HAl.out U1 _ k1.out (Reads.of_lent (m := n + 1 + m) HN.out TT1.out.has))
                rw [hRf.out] at hA
                simp only [Mem.mk_data] at hA
                refine hA.out.mono ?_
                rintro r U2 ⟨rfl, b2⟩
                have k2 := Lib.hid (k1.out.trans (b2.mono k1.out.size))
                have hs2 := Lib.hid (TT1.out.has.below b2)
                clear b2
                go_wp2_with (fail)
                refine (step_nil .null U2).mono ?_
                rintro r U3 ⟨rfl, b3⟩
                have k3 := Lib.hid (k2.out.trans (b3.mono k2.out.size))
                have hS := Lib.hid (HSt.out U3 b m spare (hs2.out.below b3) k3.out)
                clear b3
                go_wp2_with (fail)
                refine hS.out.mono ?_
                rintro r U4 ⟨rfl, b4⟩
                have k4 := Lib.hid (k3.out.trans (b4.mono k3.out.size))
                clear b4
                go_wp2_with (fail)
                refine (done_nil U4).mono ?_
                rintro r U5 ⟨rfl, rfl⟩
                go_wp2
                go_ret
                exact ⟨rfl, k4.out⟩
          · have hRf := Lib.hid (R1.out (by omega))
            have HBu := Lib.hid HV.out.below
            have hbd : ¬ ((bd : Int) = 0) := by omega
            have hbb : ((bd : Int) == 0) = false := by simp; omega
            by_cases hjn2 : j < n
            · have hlt : (j : Int) < (n : Int) := by omega
              go_wp2_with (fail)
              refine (HLn.out _ HBu.out).mono ?_
              rintro r U1 ⟨b, ⟨m, rfl⟩, spare, t1⟩
              have k1 := Lib.hid (HBu.out.trans ((t1.below (fun x hx => by cases hx) (Nat.le_refl _)).mono HBu.out.size))
              have TT1 := Lib.hid t1
              clear t1
              go_wp2_with (fail)
              have hA := Lib.hid (HAl.out U1 _ k1.out (Reads.of_lent (m := n + 1 + m) HN.out TT1.out.has))
              rw [hRf.out] at hA
              simp only [Mem.mk_data] at hA
              refine hA.out.mono ?_
              rintro r U2 ⟨rfl, b2⟩
              have k2 := Lib.hid (k1.out.trans (b2.mono k1.out.size))
              have hs2 := Lib.hid (TT1.out.has.below b2)
              clear b2
              go_wp2_with (fail)
              refine (step_nil .null U2).mono ?_
              rintro r U3 ⟨rfl, b3⟩
              have k3 := Lib.hid (k2.out.trans (b3.mono k2.out.size))
              have hS := Lib.hid (HSt.out U3 b m spare (hs2.out.below b3) k3.out)
              clear b3
              go_wp2_with (fail)
              refine hS.out.mono ?_
              rintro r U4 ⟨rfl, b4⟩
              have k4 := Lib.hid (k3.out.trans (b4.mono k3.out.size))
              clear b4
              go_wp2_with (fail)
              refine (done_nil U4).mono ?_
              rintro r U5 ⟨rfl, rfl⟩
              go_wp2
              go_ret
              exact ⟨rfl, k4.out⟩
            · have hge : (n : Int) ≤ (j : Int) := by omega
              go_wp2_with (fail)
              refine (HLn.out _ HBu.out).mono ?_
              rintro r U1 ⟨b, ⟨m, rfl⟩, spare, t1⟩
              have k1 := Lib.hid (HBu.out.trans ((t1.below (fun x hx => by cases hx) (Nat.le_refl _)).mono HBu.out.size))
              have TT1 := Lib.hid t1
              clear t1
              go_wp2_with (fail)
              have hA := Lib.hid (HAl.out U1 _ k1.out (Reads.of_lent (m := n + 1 + m) HN.out TT1.out.has))
              rw [hRf.out] at hA
              simp only [Mem.mk_data] at hA
              refine hA.out.mono ?_
              rintro r U2 ⟨rfl, b2⟩
              have k2 := Lib.hid (k1.out.trans (b2.mono k1.out.size))
              have hs2 := Lib.hid (TT1.out.has.below b2)
              clear b2
              go_wp2_with (fail)
              refine (step_nil .null U2).mono ?_
              rintro r U3 ⟨rfl, b3⟩
              have k3 := Lib.hid (k2.out.trans (b3.mono k2.out.size))
              have hS := Lib.hid (HSt.out U3 b m spare (hs2.out.below b3) k3.out)
              clear b3
              go_wp2_with (fail)
              refine hS.out.mono ?_
              rintro r U4 ⟨rfl, b4⟩
              have k4 := Lib.hid (k3.out.trans (b4.mono k3.out.size))
              clear b4
              go_wp2_with (fail)
              refine (done_nil U4).mono ?_
              rintro r U5 ⟨rfl, rfl⟩
              go_wp2
              go_ret
              exact ⟨rfl, k4.out⟩
  · go_enter Tryd.func3, Tryd.ntmps3
    go_wp2_with (fail)
    refine (HL.out _ HT.out).mono ?_
    rintro e u1 ⟨rfl, b1⟩
    go_wp2
    go_ret
    exact ⟨rfl, b1⟩
end Go.Proofs.YtopaadmnlghdaaaDoor.jsonoutTells
