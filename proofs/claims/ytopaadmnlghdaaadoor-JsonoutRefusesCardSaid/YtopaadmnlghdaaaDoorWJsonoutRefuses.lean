/- JsonoutRefuses: the walk. -/
import Derived.Test.YtopaadmnlghdaaaDoorJsonT
import Derived.Test.YtopaadmnlghdaaaDoorDocQ
import Derived.Test.YtopaadmnlghdaaaDoorDocA
namespace Go.Proofs.YtopaadmnlghdaaaDoor.jsonoutRefuses
open Go.RowKit Json

def IsRow (k : IntKind) (w : World) (a : Option Addr) (len cap : Nat) (zs : List Int) : Prop :=
  (a = none ∧ len = 0 ∧ cap = 0 ∧ zs = []) ∨
  ∃ x, a = some x ∧ len ≤ cap ∧ cap ≤ maxLen ∧ zs.length = cap ∧ (∀ i, i < zs.length → w.cell? (x.add i) = some (.int k (zs.getD i 0))) ∧ ∀ n ∈ zs, (Lit.int k n).wf = true

/-- Both writers, made behind the world w, stand alike. -/
def Pair (w : World) (wb xb : Nat) (W X : Wr) (u : World) : Prop := ∃ h1 h2, W.Is wb h1 ∧ X.Is xb h2 ∧ Own.Turn [] (h1 ++ h2) w u

theorem Pair.below {w u : World} {wb xb : Nat} {W X : Wr} (h : Pair w wb xb W X u) : Below w.heap.size w u := by
  obtain ⟨h1, h2, _, _, t⟩ := h
  exact t.below (fun x hx => by cases hx) (Nat.le_refl _)

theorem Pair.stays {w u u' : World} {wb xb : Nat} {W X : Wr} (h : Pair w wb xb W X u) (b : Below u.heap.size u u') : Pair w wb xb W X u' := by
  obtain ⟨h1, h2, i1, i2, t⟩ := h
  exact ⟨h1, h2, i1, i2, t.trans (Own.Turn.of_below t.has b)⟩

theorem Pair.new (w : World) :
    Pair w w.heap.size (w.heap.size + 1) Wr.zero Wr.zero ((w.alloc (.cells #[.slice none 0 0, .bool false] 27)).alloc (.cells #[.slice none 0 0, .bool false] 27)) := by
  have t0 := ((Own.Turn.refl (Own.Has.nil w)).allocAt w.heap.size rfl (.cells #[.slice none 0 0, .bool false] 27)).allocAt (w.heap.size + 1) (size_alloc ..) (.cells #[.slice none 0 0, .bool false] 27)
  exact ⟨_, _, Wr.Is.zero w.heap.size, Wr.Is.zero (w.heap.size + 1), t0.perm (.refl _) (List.Perm.swap ..)⟩

theorem Pair.one {w u : World} {wb xb n : Nat} {W X : Wr} (h : Pair w wb xb W X u) (T : Tabs w) (hf : W.Fits n) (hn : n ≤ 100000) (p : Part) (hp : p.small) :
    Calls Tryd.prog 11 #[.pointer (some ⟨wb, 0, none⟩), p.val] u fun e u' => e = .returned (.tuple #[.string ⟨(W.step text p).1.toArray⟩, .int .i64 ((W.step text p).2.1 : Int)]) ∧ Pair w wb xb (W.step text p).2.2 X u' := by
  have hb := h.below
  obtain ⟨h1, h2, i1, i2, t⟩ := h
  refine (step_any i1 t.has.left hf hn T.under (fun x hx => t.least (fun x hx => by cases hx) (Nat.le_refl _) x (by rw [Own.blocks, List.map_append]; exact List.mem_append_left _ hx)) (T.below hb) p hp).mono ?_
  rintro e u' ⟨rfl, h', i', t'⟩
  exact ⟨rfl, h', h2, i', i2, t.trans (t'.frame t.has)⟩

theorem Pair.two {w u : World} {wb xb n : Nat} {W X : Wr} (h : Pair w wb xb W X u) (T : Tabs w) (hf : X.Fits n) (hn : n ≤ 100000) (p : Part) (hp : p.small) :
    Calls Tryd.prog 11 #[.pointer (some ⟨xb, 0, none⟩), p.val] u fun e u' => e = .returned (.tuple #[.string ⟨(X.step text p).1.toArray⟩, .int .i64 ((X.step text p).2.1 : Int)]) ∧ Pair w wb xb W (X.step text p).2.2 u' := by
  have hb := h.below
  obtain ⟨h1, h2, i1, i2, t⟩ := h
  refine (step_any i2 t.has.right hf hn T.under (fun x hx => t.least (fun x hx => by cases hx) (Nat.le_refl _) x (by rw [Own.blocks, List.map_append]; exact List.mem_append_right _ hx)) (T.below hb) p hp).mono ?_
  rintro e u' ⟨rfl, h', i', t'⟩
  exact ⟨rfl, h1, h', i1, i', t.trans (t'.behind t.has)⟩

theorem Pair.done1 {w u : World} {wb xb : Nat} {W X : Wr} (h : Pair w wb xb W X u) : Calls Tryd.prog 14 #[.pointer (some ⟨wb, 0, none⟩)] u fun e u' => e = .returned (.bool W.done) ∧ u' = u := by
  obtain ⟨h1, h2, i1, i2, t⟩ := h
  exact done_any i1 t.has.left

theorem Pair.done2 {w u : World} {wb xb : Nat} {W X : Wr} (h : Pair w wb xb W X u) : Calls Tryd.prog 14 #[.pointer (some ⟨xb, 0, none⟩)] u fun e u' => e = .returned (.bool X.done) ∧ u' = u := by
  obtain ⟨h1, h2, i1, i2, t⟩ := h
  exact done_any i2 t.has.right

/-- A writer behind parts. -/
def run (es : List Evt) : Wr := es.foldl (fun W e => (W.take e).2.2) Wr.zero

theorem run_next (es : List Evt) (j : Nat) (h : j < es.length) : run (es.take (j + 1)) = ((run (es.take j)).take es[j]).2.2 := by
  unfold run
  rw [List.take_succ_eq_append_getElem h, List.foldl_append]
  rfl

theorem run_fits (es : List Evt) : ∀ j, j ≤ es.length → (run (es.take j)).Fits j
  | 0, _ => Wr.Fits.zero
  | j + 1, h => by rw [run_next es j (by omega)]; exact (run_fits es j (by omega)).take _

theorem run_good (es : List Evt) (W' : Wr) (hg : Json.Good Wr.zero es W') : ∀ j, j ≤ es.length → Json.Good (run (es.take j)) (es.drop j) W'
  | 0, _ => hg
  | j + 1, h => by
    obtain ⟨p, hd, hp, hps, h0, hg2⟩ := good_at (run_good es W' hg j (by omega)) (List.drop_eq_getElem_cons (show j < es.length by omega))
    rw [run_next es j (by omega)]
    unfold Wr.take
    rw [hp]
    exact hg2

/-- What is handed to the writer where a part may be bad. -/
def badPart (o : Option Part) : Part := match o with | none => .other true | some p => p

theorem badPart_small (e : Evt) (hs : e.small) : (badPart e.part).small := by
  cases hp : e.part with
  | none => trivial
  | some p => exact e.part_small p hp hs

theorem badPart_take (W : Wr) (e : Evt) : W.step text (badPart e.part) = W.take e := by
  unfold Wr.take
  cases e.part with
  | none => exact Wr.step_none text W _ rfl
  | some p => rfl

theorem take_refused (W : Wr) (e : Evt) (h : (W.take e).2.1 ≠ 0) : (W.take e).1 = [] ∧ (W.take e).2.2 = W := by
  unfold Wr.take at h ⊢
  cases hp : e.part with
  | none => exact ⟨rfl, rfl⟩
  | some p =>
    rw [hp] at h
    exact Wr.step_refused text W p h

theorem take_lt (W : Wr) (e : Evt) : (W.take e).2.1 ≤ 100 := by
  unfold Wr.take Wr.step
  repeat' split
  all_goals simp

set_option maxRecDepth 100000 in
set_option maxHeartbeats 40000000 in
theorem walk (a0 : Option Addr) (len0 cap0 : Nat) (z0 : List Int) (a1 : Int) (a2 : Evt) (w : World) (w0 : IsRow .i64 w a0 len0 cap0 z0) (_w1 : (Lit.int .i64 a1).wf = true) (w2 : a2.Fine) (T : Tabs w) :
    Calls Tryd.prog 4 #[.slice a0 len0 cap0, .int .i64 a1, a2.val] w fun e w' => e = .returned (.bool true) ∧ Below w.heap.size w w' := by
  have HL := Lib.hid (fun u (t : Tabs u) => alive_any u t)
  have HT := Lib.hid T
  have HB := Lib.hid (fun o => (Below.refl w.heap.size w).alloc (Nat.le_refl _) o)
  have HC := Lib.hid (fun u => of_any a2 u)
  have HO := Lib.hid (fun e u => of_any e u)
  have HTi := Lib.hid (fun u => tidy_any a2 u)
  have HM := Lib.hid (nums_of_row w0).2
  generalize z0.take len0 = l at HM
  have HP := Lib.hid (fun (hs : a2.text.size ≤ 1000) => badPart_small a2 (w2.small hs))
  have HPt := Lib.hid (fun (hs : a2.text.size ≤ 1000) => Evt.tidy_fine (w2.small hs))
  have HPs := Lib.hid (fun W => badPart_take W a2)
  have hml : len0 ≤ maxLen := by
    rcases w0 with ⟨_, rfl, _, _⟩ | ⟨x, _, h1, h2, _⟩
    · omega
    · omega
  unfold maxLen at hml
  have hsl := Int64.slot a1
  obtain ⟨P, hP⟩ : ∃ P, P = a2.part := ⟨_, rfl⟩
  rw [← hP] at HC HP HPs
  obtain ⟨B2, hB2⟩ : ∃ B2, B2 = a2 := ⟨_, rfl⟩
  have HB2 := Lib.hid hB2
  rw [← hB2] at HTi HPt HPs
  clear hB2
  obtain ⟨k, y, m, t, c⟩ := a2
  clear T w0 w2 hP
  simp only [Evt.val, Evt.cells] at HC HP ⊢
  have FB := Lib.hid (fun (u : World) (b : Below (w.alloc (.cells #[.int .i64 k, .bool y, .int .u64 (m : Int), .string t, .int .i64 c] 34)).heap.size (w.alloc (.cells #[.int .i64 k, .bool y, .int .u64 (m : Int), .string t, .int .i64 c] 34)) u) =>
    And.intro (boxed b 0 _ rfl) (And.intro (boxed b 1 _ rfl) (And.intro (boxed b 2 _ rfl) (And.intro (boxed b 3 _ rfl) (boxed b 4 _ rfl)))))
  have BW := Lib.hid (fun (u : World) (o : Obj) (b : Below (w.alloc o).heap.size (w.alloc o) u) => ((HB.out o).trans (b.mono (by rw [size_alloc]; omega)) : Below w.heap.size w u))
  have T1 := Lib.hid (HT.out.below (HB.out (.cells #[.int .i64 k, .bool y, .int .u64 (m : Int), .string t, .int .i64 c] 34)))
  have HEv := Lib.hid (show B2.val = .agg #[.int .i64 k, .bool y, .int .u64 (m : Int), .string t, .int .i64 c] by rw [HB2.out]; rfl)
  rw [HEv.out] at HTi
  by_cases hk : len0 ≤ 50
  · have hkI : (len0 : Int) ≤ 50 := by omega
    by_cases ht : t.size ≤ 100
    · have hts := Lib.hid (show t.size ≤ 1000 by omega)
      have HPS := Lib.hid (HP.out hts.out)
      have HPT := Lib.hid (HPt.out (by rw [HB2.out]; exact hts.out))
      go_enter Tryd.func4, Tryd.ntmps4
      go_wp2_with (fail)
      refine (HL.out _ T1.out).mono ?_
      rintro e u1 ⟨rfl, b1⟩
      have B1 := Lib.hid b1
      have HD := Lib.hid (doc_any l 6 (by omega) (.slice a0 len0 cap0) u1 ((HM.out.below (BW.out _ _ b1)).mono (BW.out _ _ b1).size))
      clear b1
      go_wp2_with (fail)
      refine HD.out.mono ?_
      rintro e u2 ⟨ov, rfl, hr, b2⟩
      have hB2w := Lib.hid (B1.out.trans (b2.mono B1.out.size))
      have HR := Lib.hid hr
      obtain ⟨a, cc, rfl, _⟩ := hr
      have hlen := doc_len l 6 (by omega)
      have HG := Lib.hid (doc_good l 6)
      have hne0 : (doc l 6).length ≠ 0 := by intro h; exact item_some l 6 0 (List.length_eq_zero_iff.1 h)
      generalize doc l 6 = D at HR hlen HG hne0 ⊢
      obtain ⟨n, hne⟩ : ∃ n, n = D.length := ⟨_, rfl⟩
      rw [← hne] at hlen HR hne0 ⊢
      have HN := Lib.hid hne
      have TU := Lib.hid (T1.out.below (hB2w.out.mono (Nat.le_refl _)))
      have H0 := Lib.hid (Pair.new u2)
      obtain ⟨q, hq, hqe⟩ := hsl n (by omega) (by omega)
      have hn0 : ¬ (n : Int) = 0 := by omega
      clear b2 hne HD hsl
      go_wp2_with (fail)
      have HSm := Lib.hid HG.out.small
      go_loopw [58] (fun i wr => ∃ j : Nat, i = .int .i64 j ∧ j ≤ n ∧ Pair u2 u2.heap.size (u2.heap.size + 1) (run (D.take j)) (run (D.take j)) wr) (fun i _ => n - (intOf i).toNat)
      case atStart => exact ⟨0, rfl, Nat.zero_le _, H0.out⟩
      case round =>
        obtain ⟨j, rfl, hj, hpr⟩ := hrel
        have HPr0 := Lib.hid hpr
        clear hpr
        by_cases hjn : j < n
        · have hje : j < D.length := by have := HN.out; omega
          have hlt : (j : Int) < (n : Int) := by omega
          obtain ⟨p, hd, hp, hps, h0, hg2⟩ := good_at (run_good D _ HG.out j (by omega)) (List.drop_eq_getElem_cons hje)
          have hrn := run_next D j hje
          have Hf := Lib.hid (run_fits D j (by omega))
          have hrd := Lib.hid (fun u (k : Below u2.heap.size u2 u) => (HR.out.below k).at_ j hje)
          generalize D[j] = e at hp hrn hrd
          obtain ⟨b, off, rfl, -⟩ := hrd.out wr HPr0.out.below
          generalize hW : run (D.take j) = W at HPr0 hd h0 hg2 hrn Hf
          obtain ⟨s1, s2, W2, hK⟩ : ∃ s1 s2 W2, W.step text p = (s1, s2, W2) := ⟨_, _, _, rfl⟩
          rw [hK] at h0
          obtain rfl : s2 = 0 := h0
          have HRun := Lib.hid (show run (D.take (j + 1)) = W2 by rw [hrn]; unfold Wr.take; rw [hp]; show (W.step text p).2.2 = W2; rw [hK])
          obtain ⟨S1, hS1⟩ : ∃ S1 : ByteArray, S1 = ⟨s1.toArray⟩ := ⟨_, rfl⟩
          have HS1 := Lib.hid (fun u (h : Pair u2 u2.heap.size (u2.heap.size + 1) W W u) => (by
            have := h.one TU.out Hf.out (show j ≤ 100000 by omega) p hps
            rw [hK] at this
            rw [hS1]
            exact this : Calls Tryd.prog 11 #[.pointer (some ⟨u2.heap.size, 0, none⟩), p.val] u fun e u' => e = .returned (.tuple #[.string S1, .int .i64 0]) ∧ Pair u2 u2.heap.size (u2.heap.size + 1) W2 W u'))
          have HS2 := Lib.hid (fun u (h : Pair u2 u2.heap.size (u2.heap.size + 1) W2 W u) => (by
            have := h.two TU.out Hf.out (show j ≤ 100000 by omega) p hps
            rw [hK] at this
            rw [hS1]
            exact this : Calls Tryd.prog 11 #[.pointer (some ⟨u2.heap.size + 1, 0, none⟩), p.val] u fun e u' => e = .returned (.tuple #[.string S1, .int .i64 0]) ∧ Pair u2 u2.heap.size (u2.heap.size + 1) W2 W2 u'))
          have Hp := Lib.hid hp
          obtain ⟨t1, f, X, hT⟩ : ∃ t1 f X, W.take B2 = (t1, f, X) := ⟨_, _, _, rfl⟩
          obtain ⟨T1s, hT1⟩ : ∃ T1s : ByteArray, T1s = ⟨t1.toArray⟩ := ⟨_, rfl⟩
          have HRs := Lib.hid (fun ub rb u (h : RHeld ub rb W u) => (by
            have := h.step Hf.out (show j ≤ 100000 by omega) B2.tidy HPT.out
            rw [Wr.take_tidy, hT] at this
            rw [hT1]
            exact this : Calls Tryd.prog 12 #[.pointer (some ⟨rb, 0, none⟩), B2.tidy.val] u fun r u' => r = .returned (.tuple #[.string T1s, .int .i64 (f : Int)]) ∧ RHeld ub rb X u'))
          have HBad := Lib.hid (fun (hf : 0 < f) u (h : Pair u2 u2.heap.size (u2.heap.size + 1) W W u) => (by
            have := h.one TU.out Hf.out (show j ≤ 100000 by omega) (badPart P) HPS.out
            have h2 := take_refused W B2 (by rw [hT]; show f ≠ 0; omega)
            rw [hT] at h2
            rw [HPs.out W, hT] at this
            obtain ⟨h3, h4⟩ := h2
            simp only at h3 h4
            subst h3 h4
            exact this : Calls Tryd.prog 11 #[.pointer (some ⟨u2.heap.size, 0, none⟩), (badPart P).val] u fun e u' => e = .returned (.tuple #[.string ⟨#[]⟩, .int .i64 (f : Int)]) ∧ Pair u2 u2.heap.size (u2.heap.size + 1) W W u'))
          have hfl : f ≤ 100 := by have := take_lt W B2; rw [hT] at this; exact this
          clear hd hp hps hg2 hrn hK hS1 hT hT1 HPs
          by_cases hjq : j = q
          · have hjqI : (j : Int) = (q : Int) := by omega
            subst hjq
            clear hjqI
            obtain ⟨c0, c1, c2, c3, c4⟩ := FB.out _ (hB2w.out.trans (HPr0.out.below.mono hB2w.out.size))
            go_wp2_with (fail)
            refine (HC.out _).mono ?_
            rintro r u5 ⟨rfl, b5⟩
            clear c0 c1 c2 c3 c4
            subst hW
            rcases P with _ | p2
            all_goals
              have PA := Lib.hid (HPr0.out.stays b5)
              dsimp only [ofVal]
              have HR0 := Lib.hid (RHeld.new (w := u5) rfl (Below.refl u5.heap.size u5))
              have hB5 := Lib.hid PA.out.below
              go_wp2_with (fail)
              go_loopw [15] (fun i2 wv => ∃ j2 : Nat, i2 = .int .i64 j2 ∧ j2 ≤ j ∧ RHeld u5 u5.heap.size (run (D.take j2)) wv) (fun i2 _ => j - (intOf i2).toNat)
              case atStart => exact ⟨0, rfl, Nat.zero_le _, HR0.out⟩
              case round =>
                obtain ⟨j2, rfl, hj2, hr2⟩ := hrel
                have Hr2 := Lib.hid hr2
                clear hr2
                by_cases hjj : j2 < j
                · have hje2 : j2 < D.length := by omega
                  have hlt2 : (j2 : Int) < (j : Int) := by omega
                  obtain ⟨b', off', e', y0, y1, y2, y3, y4⟩ := (HR.out.below (hB5.out.trans (Hr2.out.below.mono hB5.out.size))).at_ j2 hje2
                  injection e' with e'
                  injection e' with e1 e2
                  subst e1 e2
                  have hrn := Lib.hid (run_next D j2 hje2)
                  have hse := Lib.hid (HSm.out _ (List.getElem_mem hje2))
                  generalize D[j2] = e2 at y0 y1 y2 y3 y4 hrn hse
                  have hst := Lib.hid (Hr2.out.step (run_fits D j2 (by omega)) (show j2 ≤ 100000 by omega) e2 hse.out)
                  rw [← hrn.out] at hst
                  have hjn2 : j2 ≤ 100000 := by omega
                  go_wp2_with (fail)
                  refine hst.out.mono ?_
                  rintro r v4 ⟨rfl, g4⟩
                  have G4 := Lib.hid g4
                  clear g4 y0 y1 y2 y3 y4
                  go_wp2_with (fail)
                  go_roundw
                  case rel => exact ⟨j2 + 1, by go_num, by omega, G4.out⟩
                  case measure => simp [intOf]; omega
                · have hge2 : (j : Int) ≤ (j2 : Int) := by omega
                  obtain rfl : j2 = j := by omega
                  obtain ⟨c0, c1, c2, c3, c4⟩ := FB.out _ (hB2w.out.trans ((hB5.out.trans (Hr2.out.below.mono hB5.out.size)).mono hB2w.out.size))
                  go_wp2_with (fail)
                  refine (HTi.out _).mono ?_
                  rintro r v5 ⟨rfl, g5⟩
                  have R5 := Lib.hid (Hr2.out.stays g5)
                  clear c0 c1 c2 c3 c4 g5
                  go_wp2_with (fail)
                  refine (HRs.out u5 u5.heap.size _ R5.out).mono ?_
                  rintro r v6 ⟨rfl, g6⟩
                  have P6 := Lib.hid (PA.out.stays g6.below)
                  clear g6
                  rcases Nat.eq_zero_or_pos f with hf0 | hf0
                  · subst hf0
                    obtain ⟨b', off', e', y0, y1, y2, y3, y4⟩ := hrd.out _ P6.out.below
                    injection e' with e'
                    injection e' with e1 e2
                    subst e1 e2
                    go_wp2_with (fail)
                    refine (HO.out e _).mono ?_
                    rw [Hp.out]
                    rintro r v1 ⟨rfl, g1⟩
                    have P1 := Lib.hid (P6.out.stays g1)
                    clear y0 y1 y2 y3 y4 g1
                    dsimp only [ofVal]
                    go_wp2_with (fail)
                    refine (HS1.out _ P1.out).mono ?_
                    rintro r v2 ⟨rfl, g2⟩
                    have P2 := Lib.hid g2
                    clear g2
                    go_wp2_with (fail)
                    refine (HS2.out _ P2.out).mono ?_
                    rintro r v3 ⟨rfl, g3⟩
                    have P3 := Lib.hid g3
                    clear g3
                    go_wp2_with (fail)
                    go_roundw
                    case rel => exact ⟨j2 + 1, by go_num, by omega, by rw [HRun.out]; exact P3.out⟩
                    case measure => simp [intOf]; omega
                  · have hfne : ¬ ((f : Int) = 0) := by omega
                    have hfb : ((f : Int) == 0) = false := by simp; omega
                    have hfb2 : ((f : Int) != 0) = true := by simp; omega
                    go_wp2_with (fail)
                    refine (HBad.out hf0 _ P6.out).mono ?_
                    rintro r v7 ⟨rfl, g7⟩
                    have P7 := Lib.hid g7
                    clear g7
                    obtain ⟨b', off', e', y0, y1, y2, y3, y4⟩ := hrd.out _ P7.out.below
                    injection e' with e'
                    injection e' with e1 e2
                    subst e1 e2
                    go_wp2_with (fail)
                    refine (HO.out e _).mono ?_
                    rw [Hp.out]
                    rintro r v1 ⟨rfl, g1⟩
                    have P1 := Lib.hid (P7.out.stays g1)
                    clear y0 y1 y2 y3 y4 g1
                    dsimp only [ofVal]
                    go_wp2_with (fail)
                    refine (HS1.out _ P1.out).mono ?_
                    rintro r v2 ⟨rfl, g2⟩
                    have P2 := Lib.hid g2
                    clear g2
                    go_wp2_with (fail)
                    refine (HS2.out _ P2.out).mono ?_
                    rintro r v3 ⟨rfl, g3⟩
                    have P3 := Lib.hid g3
                    clear g3
                    go_wp2_with (fail)
                    go_roundw
                    case rel => exact ⟨j2 + 1, by go_num, by omega, by rw [HRun.out]; exact P3.out⟩
                    case measure => simp [intOf]; omega
          · have hjqI : ¬ ((j : Int) = (q : Int)) := by omega
            have hjqb : ((j : Int) == (q : Int)) = false := by simp; omega
            obtain ⟨b', off', e', y0, y1, y2, y3, y4⟩ := hrd.out _ HPr0.out.below
            injection e' with e'
            injection e' with e1 e2
            subst e1 e2
            go_wp2_with (fail)
            refine (HO.out e _).mono ?_
            rw [Hp.out]
            rintro r v1 ⟨rfl, g1⟩
            have P1 := Lib.hid (HPr0.out.stays g1)
            clear y0 y1 y2 y3 y4 g1
            dsimp only [ofVal]
            go_wp2_with (fail)
            refine (HS1.out _ P1.out).mono ?_
            rintro r v2 ⟨rfl, g2⟩
            have P2 := Lib.hid g2
            clear g2
            go_wp2_with (fail)
            refine (HS2.out _ P2.out).mono ?_
            rintro r v3 ⟨rfl, g3⟩
            have P3 := Lib.hid g3
            clear g3
            go_wp2_with (fail)
            go_roundw
            case rel => exact ⟨j + 1, by go_num, by omega, by rw [HRun.out]; exact P3.out⟩
            case measure => simp [intOf]; omega
        · have hge : (n : Int) ≤ (j : Int) := by omega
          have hw := good_end (run_good D _ HG.out j (by have := HN.out; omega)) (by rw [List.drop_eq_nil_iff]; have := HN.out; omega)
          rw [hw] at HPr0
          have hF := Lib.hid (BW.out _ _ (hB2w.out.trans (HPr0.out.below.mono hB2w.out.size)))
          have d1 := Lib.hid HPr0.out.done1
          have d2 := Lib.hid HPr0.out.done2
          go_wp2_with (fail)
          refine d1.out.mono ?_
          rintro r v8 ⟨rfl, rfl⟩
          go_wp2_with (fail)
          refine d2.out.mono ?_
          rintro r v9 ⟨rfl, rfl⟩
          go_wp2_with (fail)
          go_ret
          exact ⟨rfl, hF.out⟩
    · go_enter Tryd.func4, Tryd.ntmps4
      go_wp2_with (fail)
      refine (HL.out _ T1.out).mono ?_
      rintro e u1 ⟨rfl, b1⟩
      go_wp2
      go_ret
      exact ⟨rfl, BW.out _ _ b1⟩
  · have hkI : 50 < (len0 : Int) := by omega
    go_enter Tryd.func4, Tryd.ntmps4
    go_wp2_with (fail)
    refine (HL.out _ T1.out).mono ?_
    rintro e u1 ⟨rfl, b1⟩
    go_wp2
    go_ret
    exact ⟨rfl, BW.out _ _ b1⟩
end Go.Proofs.YtopaadmnlghdaaaDoor.jsonoutRefuses
