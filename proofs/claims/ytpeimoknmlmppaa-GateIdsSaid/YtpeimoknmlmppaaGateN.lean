/- A session begins at a gateway. -/
import Derived.Test.YtpeimoknmlmppaaGateL
import Derived.StillTailTactics
import Derived.Deep.RegionWith
namespace Go.Proofs.Ytpeimoknmlmppaa
open Go.RowKit
namespace Gate
open Purse (ints)

theorem full_any (w : World) : Calls Try.prog 27 #[] w fun e w' => e = .returned (.string ⟨#[70]⟩) ∧ w' = w := by
  go_enter Try.func27, Try.ntmps27
  go_wp2
  go_ret
  exact ⟨rfl, rfl⟩

/-- What a gateway is behind a session that began in slot i, told so its block's time at c. -/
def Ga.begin_ (g : Ga) (i c : Nat) : Ga :=
  { n := g.n, slots := g.slots.set i (some Se.new), ids := g.ids.set i (i + g.n * g.many), many := g.many + 1, pu := (g.pu.turn i true).put i 2, turns := g.turns ++ [i], es := g.es ++ [(i, c, ⟨0, 0, 0⟩)] }

theorem set_isSome (ss : List (Option Se)) (i : Nat) (s : Se) : (ss.set i (some s)).map Option.isSome = (ss.map Option.isSome).set i true := by rw [List.map_set]; rfl

theorem Ga.Ok.begin_ {g : Ga} (o : g.Ok) (i c : Nat) (hi : g.slots[i]? = some none) (hm : g.many ≤ 800) (hf : g.turns.length ≤ 400) (h8 : g.n ≤ 8) : (g.begin_ i c).Ok where
  pos := o.pos
  len := (List.length_set ..).trans o.len
  timed := by
    intro j u hj
    show j ∈ (g.es ++ [(i, c, (⟨0, 0, 0⟩ : Timer.Rec))]).map Prod.fst
    rw [List.map_append, List.mem_append]
    by_cases hij : i = j
    · subst hij; exact .inr (by simp)
    · exact .inl (o.timed j u (by rw [show (g.begin_ i c).slots = g.slots.set i (some Se.new) from rfl, List.getElem?_set_ne hij] at hj; exact hj))
  untimed := by
    intro j hj
    have hl : i < g.slots.length := (List.getElem?_eq_some_iff.1 hi).1
    by_cases hij : i = j
    · subst hij
      rw [show (g.begin_ i c).slots = g.slots.set i (some Se.new) from rfl, List.getElem?_set_self hl] at hj
      simp at hj
    · show j ∉ (g.es ++ [(i, c, (⟨0, 0, 0⟩ : Timer.Rec))]).map Prod.fst
      rw [List.map_append, List.mem_append]
      have h1 := o.untimed j (by rw [show (g.begin_ i c).slots = g.slots.set i (some Se.new) from rfl, List.getElem?_set_ne hij] at hj; exact hj)
      rintro (h2 | h2)
      · exact h1 h2
      · simp at h2; exact hij h2.symm
  once := by
    show ((g.es ++ [(i, c, (⟨0, 0, 0⟩ : Timer.Rec))]).map Prod.fst).Nodup
    rw [List.map_append]
    refine List.nodup_append.2 ⟨o.once, by simp, fun x hx y hy e => ?_⟩
    simp at hy
    subst hy
    subst e
    exact o.untimed _ hi hx
  has := by
    show g.pu.has.set i 2 = (g.slots.set i (some Se.new)).map chargeO
    rw [o.has, List.map_set]
    rfl
  opn := by
    show g.pu.opn.set i true = (g.slots.set i (some Se.new)).map Option.isSome
    rw [set_isSome, o.opn]
  sess := by
    intro u hu
    rcases List.mem_or_eq_of_mem_set hu with h1 | h1
    · exact o.sess u h1
    · rw [Option.some.inj h1]; decide
  ids := by
    intro x hx
    rcases List.mem_or_eq_of_mem_set hx with h1 | h1
    · exact o.ids x h1
    · have hl : i < g.n := by rw [← o.len]; exact (List.getElem?_eq_some_iff.1 hi).1
      rw [h1]
      have : g.n * g.many ≤ 8 * 800 := Nat.mul_le_mul h8 hm
      omega
  turns := by
    intro j hj
    have hl : i < g.slots.length := (List.getElem?_eq_some_iff.1 hi).1
    by_cases hij : i = j
    · subst hij
      rw [show (g.begin_ i c).slots = g.slots.set i (some Se.new) from rfl, List.getElem?_set_self hl] at hj
      simp at hj
    · have h1 := o.turns j (by rw [show (g.begin_ i c).slots = g.slots.set i (some Se.new) from rfl, List.getElem?_set_ne hij] at hj; exact hj)
      show j ∉ g.turns ++ [i]
      rw [List.mem_append]
      rintro (h2 | h2)
      · exact h1 h2
      · simp at h2; exact hij h2.symm
  turnsOnce := by
    show (g.turns ++ [i]).Nodup
    refine List.nodup_append.2 ⟨o.turnsOnce, by simp, fun x hx y hy e => ?_⟩
    simp at hy
    subst hy
    subst e
    exact o.turns _ hi hx
  turnsLive := by
    intro j u hj
    show j ∈ g.turns ++ [i]
    rw [List.mem_append]
    by_cases hij : i = j
    · subst hij; exact .inr (by simp)
    · exact .inl (o.turnsLive j u (by rw [show (g.begin_ i c).slots = g.slots.set i (some Se.new) from rfl, List.getElem?_set_ne hij] at hj; exact hj))
  few := by show (g.turns ++ [i]).length ≤ 500; rw [List.length_append]; simp; omega
  many := by show g.many + 1 ≤ 900; omega

def Lay.new (l : Lay) (j : Nat) (x : Value) (hs : Own.Heap) : Lay := { l with vs := l.vs.set j x, hs := hs }
def Ga.g3 (g : Ga) (j : Nat) : Ga := { g with slots := g.slots.set j (some Se.new), ids := g.ids.set j (j + g.n * g.many), many := g.many + 1 }
def Ga.g4 (g : Ga) (j : Nat) : Ga := { g.g3 j with pu := g.pu.turn j true }
def Ga.g6 (g : Ga) (j : Nat) : Ga := { (g.g4 j).putPu j 2 with turns := g.turns ++ [j] }

section
variable {l : Lay} {g : Ga} {w : World}

theorem perm_wheel (l : Lay) (g : Ga) : (l.heap g).Perm (l.hw ++ (l.row g :: l.srow :: l.irow g :: (l.purse g ++ (l.ht ++ l.hs)))) := by
  refine Own.perm_of_count _ _ fun x => ?_
  unfold Lay.heap
  simp only [List.count_append, List.count_cons]
  omega

theorem _root_.Go.Proofs.Ytpeimoknmlmppaa.Timer.Map.mono {n m : Nat} {es : Timer.Ents} {v : Value} {h : Own.Heap} (k : Timer.Map n es v h) (hm : n ≤ m) : Timer.Map m es v h := by
  cases k with
  | none h0 => exact .none h0
  | some b o ho => exact .some b o (ho.mono hm)

theorem turn_new {a h0 h1 h2 : Own.Heap} {u v : World} (t : Own.Turn a (h0 ++ l.heap g) u v) (hs : l.hs = h1 ++ h2) (j : Nat) (x : Value) (hj : j < l.vs.length) (S : List (Option Se)) :
    Own.Turn a (({ l with vs := l.vs.set j x, hs := h1 ++ (h0 ++ h2) } : Lay).heap { g with slots := S }) u (v.setCell ⟨l.sb, j, none⟩ x) := by
  have p1 : (h0 ++ l.heap g).Perm (l.srow :: (l.row g :: l.irow g :: (l.purse g ++ (l.hw ++ (l.ht ++ (h1 ++ (h0 ++ h2))))))) := by
    refine Own.perm_of_count _ _ fun x => ?_
    unfold Lay.heap
    rw [hs]
    simp only [List.count_append, List.count_cons]
    omega
  have t1 := (t.perm (List.Perm.refl _) p1).set j x hj
  refine t1.perm (List.Perm.refl _) ?_
  exact List.Perm.swap _ _ _

theorem turn_ids {a : Own.Heap} {u v : World} (t : Own.Turn a (l.heap g) u v) (j x : Nat) (y : Int) (hy : y = (x : Int)) (hj : j < g.ids.length) :
    Own.Turn a (l.heap { g with ids := g.ids.set j x }) u (v.setCell ⟨l.ib, j, none⟩ (.int .i64 y)) := by
  subst hy
  have t1 := Own.Turn.setAt (A := [_, _]) t j (.int .i64 (x : Int)) (by simpa [ints] using hj)
  rw [Purse.ints_set] at t1
  exact t1

theorem turn_many {a : Own.Heap} {u v : World} (t : Own.Turn a (l.heap g) u v) (x : Int) (hx : x = (g.many : Int) + 1) :
    Own.Turn a (l.heap { g with many := g.many + 1 }) u (v.setCell ⟨l.gb, 2, none⟩ (.int .i64 x)) := by
  subst hx
  have t1 := Own.Turn.set t 2 (.int .i64 ((g.many : Int) + 1)) (by simp [front])
  exact t1

set_option maxRecDepth 100000 in
set_option maxHeartbeats 4000000 in
theorem connect_any (k : l.Good g) (o : g.Ok) (h : Own.Has w (l.heap g)) (i : Nat) (hi : g.slots[i]? = some none) (hfirst : ∀ j, j < i → g.slots[j]? ≠ some none) (hm : g.many ≤ 800) (hf : g.turns.length ≤ 400) :
    Calls Try.prog 9 #[.pointer (some ⟨l.gb, 0, none⟩)] w fun e w' => e = .returned (.tuple #[.int .i64 ((i + g.n * g.many : Nat) : Int), .string ⟨#[]⟩]) ∧
      ∃ l' c, Lay.Good l' (g.begin_ i c) ∧ (g.begin_ i c).Ok ∧ l'.gb = l.gb ∧ Own.Turn (l.heap g) (l'.heap (g.begin_ i c)) w w' := by
  have c0 := cell h 0 _ rfl
  have h8 := k.small
  have hil : i < g.n := by rw [← k.len]; exact (List.getElem?_eq_some_iff.1 hi).1
  have HH := Lib.hid h
  have K := Lib.hid (And.intro k (And.intro o (And.intro hi (And.intro hfirst (And.intro hm hf)))))
  clear k o hi hfirst hm hf
  go_enter Try.func9, Try.ntmps9
  go_wp2
  go_loopw [13] (fun x wr => ∃ (j : Nat), x = .int .i64 j ∧ j ≤ i ∧ wr = w) (fun x _ => i + 1 - (intOf x).toNat)
  case atStart => exact ⟨0, rfl, by omega, rfl⟩
  case round =>
    obtain ⟨j, rfl, hj, rfl⟩ := hrel
    have hjn : j < g.n := by omega
    have hI : (j : Int) < (g.n : Int) := by omega
    have hjv : j < l.vs.length := by rw [K.out.1.vlen]; exact hjn
    have hjs : j < g.slots.length := by rw [K.out.1.len]; exact hjn
    have cs := cellS h j _ (List.getElem?_eq_getElem hjv)
    by_cases hji : j = i
    · subst hji
      obtain ⟨hv, h1, h2, a1, a2⟩ := K.out.1.slots.none_at j K.out.2.2.1
      rw [List.getElem?_eq_getElem hjv] at hv
      rw [Option.some.inj hv] at cs
      have fs := freeS h j
      have A := Lib.hid (And.intro a1 a2)
      have hM : g.n * g.many ≤ 6400 := Nat.mul_le_mul h8 K.out.2.2.2.2.1
      have hMI : (g.n : Int) * (g.many : Int) = ((g.n * g.many : Nat) : Int) := by rw [Int.natCast_mul]
      have hji : j < g.ids.length := by rw [K.out.1.ids]; exact hjn
      have HG := Lib.hid (And.intro hM (And.intro hMI (And.intro hji (And.intro hjv (And.intro hjn h8)))))
      clear a1 a2 hv hj h8 hM hMI hji hjv hjn hjs hil
      go_wp2
      go_region_with (refine (Sess.new_any _).mono ?_; rintro e W1 ⟨sk, h0, rfl, is0, ht⟩; have t0 := ((Own.Turn.refl HH.out).drew).trans (ht.frame HH.out.drew); have hw1 := t0.has.right; have d0 := cell hw1 0 _ rfl; have ds := cellS hw1 j _ (List.getElem?_eq_getElem HG.out.2.2.2.1); have dfs := freeS hw1 j; have IS := Lib.hid is0; have T0 := Lib.hid t0; clear is0 t0 ht hw1)
      all_goals
        have T1 := turn_new T0.out A.out.1 j (.pointer (some ⟨sk, 0, none⟩)) HG.out.2.2.2.1 (g.slots.set j (some Se.new))
        have S1 := Lib.hid (A.out.2 Se.new sk h0 IS.out)
        generalize (World.setCell W1 ⟨l.sb, j, none⟩ (.pointer (some ⟨sk, 0, none⟩))) = W2 at T1 ⊢
        clear T0 d0 ds dfs cs fs c0 h IS A
        have e0 : W2.cell? ⟨l.gb, 0, none⟩ = some (.slice (some ⟨l.sb, 0, none⟩) g.n g.n) := cell T1.has 0 _ rfl
        have e1 : W2.cell? ⟨l.gb, 1, none⟩ = some (.slice (some ⟨l.ib, 0, none⟩) g.n g.n) := cell T1.has 1 _ rfl
        have e2 : W2.cell? ⟨l.gb, 2, none⟩ = some (.int .i64 (g.many : Int)) := cell T1.has 2 _ rfl
        have e3 : W2.cell? ⟨l.gb, 3, none⟩ = some (.pointer (some ⟨l.pb, 0, none⟩)) := cell T1.has 3 _ rfl
        have f2 : W2.frozen? ⟨l.gb, 2, none⟩ = false := free T1.has 2
        have ei : W2.cell? ⟨l.ib, j, none⟩ = some (.int .i64 ((g.ids[j]'HG.out.2.2.1 : Nat) : Int)) := cellI T1.has j HG.out.2.2.1
        have fi : W2.frozen? ⟨l.ib, j, none⟩ = false := freeI T1.has j
        have hne : ¬ l.gb = l.ib := by
          have h9 := (List.nodup_cons.1 T1.has.once).1
          intro e
          exact h9 (e ▸ List.mem_cons_of_mem _ (List.mem_cons_self ..))
        have hne' : ¬ l.ib = l.gb := fun e => hne e.symm
        have TT1 := Lib.hid T1
        clear T1
        obtain ⟨M, hM⟩ : ∃ M, M = g.n * g.many := ⟨_, rfl⟩
        have HM := Lib.hid hM
        have hM6 : M ≤ 6400 := by rw [hM]; exact HG.out.1
        have hj8 : j ≤ 8 := by have := HG.out; omega
        have hw1 : IntKind.i64.wrap ((g.n : Int) * (g.many : Int)) = (M : Int) := by rw [HG.out.2.1, ← hM, IntKind.wrap_i64]; omega
        have hw2 : IntKind.i64.wrap ((j : Int) + (M : Int)) = ((j + M : Nat) : Int) := by rw [IntKind.wrap_i64]; omega
        have hmany : g.many ≤ 800 := K.out.2.2.2.2.1
        clear hM
        go_wp2
        go_still_tail 18, (by kernel_rfl)
        go_wp2_with (fail)
        have T3 := (turn_many (turn_ids TT1.out j (j + M) ((j : Int) + (M : Int)) (by omega) HG.out.2.2.1) ((g.many : Int) + 1) rfl).drew
        generalize (World.drew (World.setCell (World.setCell W2 ⟨l.ib, j, none⟩ (.int .i64 ((j : Int) + (M : Int)))) ⟨l.gb, 2, none⟩ (.int .i64 ((g.many : Int) + 1)))) = W3 at T3 ⊢
        rw [HM.out] at T3
        replace T3 : Own.Turn (l.heap g) ((l.new j (.pointer (some ⟨sk, 0, none⟩)) (h1 ++ (h0 ++ h2))).heap (g.g3 j)) wr W3 := T3
        clear e0 e1 e2 e3 f2 ei fi hne hne' hw1 hw2 TT1
        have hjn : j < g.n := HG.out.2.2.2.2.1
        have ho2 := K.out.2.1.opn
        have hop : g.pu.opn[j]'(by rw [← K.out.1.pu.same, K.out.1.pun]; exact hjn) = false := by
          have h9 : g.pu.opn[j]? = some false := by rw [ho2, List.getElem?_map, K.out.2.2.1]; rfl
          rw [List.getElem?_eq_getElem (by rw [← K.out.1.pu.same, K.out.1.pun]; exact hjn)] at h9
          exact Option.some.inj h9
        have P4 := Purse.open_any (purse T3.has) K.out.1.pu j _ hop
        refine Calls.mono P4 ?_
        rintro e W4 ⟨rfl, t4⟩
        have T4 := T3.trans (Own.Turn.focus T3.has (perm_purse _ _) (fun _ => t4) (perm_purse (l.new j (.pointer (some ⟨sk, 0, none⟩)) (h1 ++ (h0 ++ h2))) (g.g4 j)))
        have G4 : (l.new j (.pointer (some ⟨sk, 0, none⟩)) (h1 ++ (h0 ++ h2))).Good (g.g4 j) :=
          ⟨(List.length_set ..).trans K.out.1.len, (List.length_set ..).trans K.out.1.ids, K.out.1.pun, K.out.1.pu.turn j true, K.out.1.wheel, K.out.1.timer.mono (by show g.many ≤ g.many + 1; omega), S1.out⟩
        clear P4 t4 T3 hop ho2 S1
        have HC5 := Lib.hid (charge_any G4 T4.has j Se.new (by show (g.slots.set j (some Se.new))[j]? = _; exact List.getElem?_set_self (by rw [K.out.1.len]; exact hjn)) (by show (g.pu.opn.set j true)[j]? = _; exact List.getElem?_set_self (by rw [← K.out.1.pu.same, K.out.1.pun]; exact hjn)) (by decide) (by decide))
        have TT4 := Lib.hid T4
        clear T4 G4
        go_wp2_with (fail)
        refine HC5.out.mono ?_
        rintro e W5 ⟨⟨v5, rfl⟩, G5, t5⟩
        have T5 := TT4.out.trans t5
        have e4 : W5.cell? ⟨l.gb, 4, none⟩ = some (.pointer (some ⟨l.wb, 0, none⟩)) := cell T5.has 4 _ rfl
        have HW6 := Lib.hid (Wheel.add_any K.out.1.wheel (T5.has.perm (perm_wheel _ _)).left (by have := K.out.2.2.2.2.2; omega) j hjn (K.out.2.1.turns j K.out.2.2.1))
        have TT5 := Lib.hid T5
        have GG5 := Lib.hid G5
        clear T5 HC5 t5 G5 TT4
        go_wp2_with (fail)
        refine HW6.out.mono ?_
        rintro e W6 ⟨rfl, hw6, wi6, t6⟩
        have T6 := TT5.out.trans (Own.Turn.focus TT5.out.has (perm_wheel _ _) (fun _ => t6) (perm_wheel { l.new j (.pointer (some ⟨sk, 0, none⟩)) (h1 ++ (h0 ++ h2)) with hw := hw6 } (g.g6 j)))
        have HT7 := Lib.hid (Timer.start_any (T6.has.perm (perm_timer _ _)).left K.out.1.timer 5 rfl j 0 (by omega) (by omega) (by omega) (fun e he hej => K.out.2.1.untimed j K.out.2.2.1 (hej ▸ List.mem_map_of_mem he)))
        have TT6 := Lib.hid T6
        have WI6 := Lib.hid wi6
        clear HW6 e4 t6 T6 wi6
        go_wp2_with (fail)
        refine HT7.out.mono ?_
        rintro e W7 ⟨rfl, mv7, ht7, c7, m7, t7⟩
        have T7 := TT6.out.trans (Own.Turn.focus TT6.out.has (perm_timer _ _) (fun _ => t7) (perm_timer { l.new j (.pointer (some ⟨sk, 0, none⟩)) (h1 ++ (h0 ++ h2)) with hw := hw6, mv := mv7, ht := ht7 } (g.begin_ j c7)))
        have G7 : ({ l.new j (.pointer (some ⟨sk, 0, none⟩)) (h1 ++ (h0 ++ h2)) with hw := hw6, mv := mv7, ht := ht7 } : Lay).Good (g.begin_ j c7) :=
          ⟨GG5.out.len, GG5.out.ids, GG5.out.pun, GG5.out.pu, WI6.out, m7, GG5.out.slots⟩
        have e1 : W7.cell? ⟨l.gb, 1, none⟩ = some (.slice (some ⟨l.ib, 0, none⟩) g.n g.n) := cell T7.has 1 _ rfl
        have hjI : j < (g.ids.set j (j + g.n * g.many)).length := by rw [List.length_set]; exact HG.out.2.2.1
        have ei : W7.cell? ⟨l.ib, j, none⟩ = some (.int .i64 (((g.ids.set j (j + g.n * g.many))[j]'hjI : Nat) : Int)) := cellI T7.has j hjI
        rw [List.getElem_set_self, ← HM.out] at ei
        have TT7 := Lib.hid T7
        have GG7 := Lib.hid G7
        clear T7 G7 m7 t7 HT7
        go_wp2
        go_ret2
        rw [HM.out]
        exact ⟨rfl, _, c7, GG7.out, K.out.2.1.begin_ j c7 K.out.2.2.1 K.out.2.2.2.2.1 K.out.2.2.2.2.2 HG.out.2.2.2.2.2, rfl, TT7.out⟩
    · have hs' : ∃ s, g.slots[j]? = some (some s) := by
        cases hs : g.slots[j]'hjs with
        | none => exact absurd (by rw [List.getElem?_eq_getElem hjs, hs]) (K.out.2.2.2.1 j (by omega))
        | some s => exact ⟨s, by rw [List.getElem?_eq_getElem hjs, hs]⟩
      obtain ⟨s, hs'⟩ := hs'
      obtain ⟨b, _, _, _, hv, _⟩ := K.out.1.slots.some_at j s hs'
      rw [List.getElem?_eq_getElem hjv] at hv
      rw [Option.some.inj hv] at cs
      clear hs' hv
      go_wp2
      go_roundw
      case rel => exact ⟨j + 1, by go_num, by omega, trivial⟩
      case measure => simp [intOf]; omega
end
end Gate
end Go.Proofs.Ytpeimoknmlmppaa
