/- A gateway's memory; its purse's charge. -/
import Derived.Test.YtpeimoknmlmppaaSess
import Derived.Test.YtpeimoknmlmppaaPurse
import Derived.Test.YtpeimoknmlmppaaWheel
import Derived.Test.YtpeimoknmlmppaaTimer
import Derived.Deep.RegionWith
namespace Go.Proofs.Ytpeimoknmlmppaa
open Go.RowKit
namespace Gate

/-- The cells vs of the slots ss; h is the sessions' memory. -/
inductive Slots : List (Option Se) → List Value → Own.Heap → Prop where
  | nil : Slots [] [] []
  | free {ss : List (Option Se)} {vs : List Value} {h : Own.Heap} (k : Slots ss vs h) : Slots (none :: ss) (.pointer none :: vs) h
  | used {ss : List (Option Se)} {vs : List Value} {h : Own.Heap} {s : Se} {b : Nat} {h0 : Own.Heap} (i : Sess.Is s b h0) (k : Slots ss vs h) : Slots (some s :: ss) (.pointer (some ⟨b, 0, none⟩) :: vs) (h0 ++ h)

theorem Slots.length {ss : List (Option Se)} {vs : List Value} {h : Own.Heap} (k : Slots ss vs h) : vs.length = ss.length := by
  induction k with
  | nil => rfl
  | free _ ih => simp [ih]
  | used _ _ ih => simp [ih]

theorem Slots.none_at {ss : List (Option Se)} {vs : List Value} {h : Own.Heap} (k : Slots ss vs h) : ∀ i, ss[i]? = some none →
    vs[i]? = some (.pointer none) ∧ ∃ h1 h2, h = h1 ++ h2 ∧ ∀ s b h0, Sess.Is s b h0 → Slots (ss.set i (some s)) (vs.set i (.pointer (some ⟨b, 0, none⟩))) (h1 ++ (h0 ++ h2)) := by
  induction k with
  | nil => intro i hi; simp at hi
  | @free ss vs h k ih =>
    intro i hi
    cases i with
    | zero => exact ⟨rfl, [], h, rfl, fun s b h0 is => (Slots.used is k : Slots _ _ (h0 ++ h))⟩
    | succ i =>
      obtain ⟨h1, a, b, h2, h3⟩ := ih i (by simpa using hi)
      exact ⟨by simpa using h1, a, b, h2, fun s bb h0 is => .free (h3 s bb h0 is)⟩
  | @used ss vs h s b h0 is k ih =>
    intro i hi
    cases i with
    | zero => simp at hi
    | succ i =>
      obtain ⟨h1, a, c, h2, h3⟩ := ih i (by simpa using hi)
      refine ⟨by simpa using h1, h0 ++ a, c, by rw [h2, List.append_assoc], fun s' bb h0' is' => ?_⟩
      have := Slots.used is (h3 s' bb h0' is')
      rw [← List.append_assoc] at this
      exact this

theorem Slots.some_at {ss : List (Option Se)} {vs : List Value} {h : Own.Heap} (k : Slots ss vs h) : ∀ i s, ss[i]? = some (some s) →
    ∃ b h1 h0 h2, vs[i]? = some (.pointer (some ⟨b, 0, none⟩)) ∧ h = h1 ++ (h0 ++ h2) ∧ Sess.Is s b h0 ∧ (∀ s' h0', Sess.Is s' b h0' → Slots (ss.set i (some s')) vs (h1 ++ (h0' ++ h2))) ∧
      Slots (ss.set i none) (vs.set i (.pointer none)) (h1 ++ h2) := by
  induction k with
  | nil => intro i s hi; simp at hi
  | @free ss vs h k ih =>
    intro i s hi
    cases i with
    | zero => simp at hi
    | succ i =>
      obtain ⟨b, h1, h0, h2, a1, a2, a3, a4, a5⟩ := ih i s (by simpa using hi)
      exact ⟨b, h1, h0, h2, by simpa using a1, a2, a3, fun s' h0' is => .free (a4 s' h0' is), .free a5⟩
  | @used ss vs h s0 b0 h00 is0 k ih =>
    intro i s hi
    cases i with
    | zero =>
      obtain rfl : s0 = s := by simpa using hi
      exact ⟨b0, [], h00, h, rfl, rfl, is0, fun s' h0' is => (Slots.used is k : Slots _ _ (h0' ++ h)), .free k⟩
    | succ i =>
      obtain ⟨b, h1, h0, h2, a1, a2, a3, a4, a5⟩ := ih i s (by simpa using hi)
      refine ⟨b, h00 ++ h1, h0, h2, by simpa using a1, by rw [a2, List.append_assoc], a3, fun s' h0' is => ?_, ?_⟩
      · have := Slots.used is0 (a4 s' h0' is)
        rw [← List.append_assoc] at this
        exact this
      · have := Slots.used is0 a5
        rw [← List.append_assoc] at this
        exact this

/-- A gateway: its slots, ids, how many came ever, the purse, who takes turns, who is timed. -/
structure Ga where
  n : Nat
  slots : List (Option Se)
  ids : List Nat
  many : Nat
  pu : Purse.St
  turns : List Nat
  es : Timer.Ents

def front (n sb ib many pb wb : Nat) : List Value :=
  [.slice (some ⟨sb, 0, none⟩) n n, .slice (some ⟨ib, 0, none⟩) n n, .int .i64 (many : Int), .pointer (some ⟨pb, 0, none⟩), .pointer (some ⟨wb, 0, none⟩)]

/-- Where its parts lie, and what they hold. -/
structure Lay where
  (gb sb ib pb hb ob wb : Nat)
  mv : Value
  vs : List Value
  (hw ht hs : Own.Heap)

def Lay.row (l : Lay) (g : Ga) : Nat × Obj := Timer.at_ l.gb 53 (front g.n l.sb l.ib g.many l.pb l.wb) 0 l.mv []
def Lay.srow (l : Lay) : Nat × Obj := Own.row l.sb 54 l.vs
def Lay.irow (l : Lay) (g : Ga) : Nat × Obj := Own.row l.ib 3 (Purse.ints g.ids)
def Lay.purse (l : Lay) (g : Ga) : Own.Heap := Purse.heap g.pu l.pb l.hb l.ob

def Lay.heap (l : Lay) (g : Ga) : Own.Heap := l.row g :: l.srow :: l.irow g :: (l.purse g ++ (l.hw ++ (l.ht ++ l.hs)))

structure Lay.Good (l : Lay) (g : Ga) : Prop where
  len : g.slots.length = g.n
  ids : g.ids.length = g.n
  pun : g.pu.has.length = g.n
  pu : g.pu.Fits
  wheel : Wheel.Is g.n g.turns l.wb l.hw
  timer : Timer.Map g.many g.es l.mv l.ht
  slots : Slots g.slots l.vs l.hs

section
variable {l : Lay} {g : Ga} {w : World}

theorem Lay.Good.small (k : l.Good g) : g.n ≤ 8 := by rw [← k.pun, k.pu.same]; exact k.pu.few
theorem Lay.Good.vlen (k : l.Good g) : l.vs.length = g.n := k.slots.length.trans k.len

theorem Lay.mem0 (l : Lay) (g : Ga) : l.row g ∈ l.heap g := List.mem_cons_self ..
theorem Lay.mem1 (l : Lay) (g : Ga) : l.srow ∈ l.heap g := List.mem_cons_of_mem _ (List.mem_cons_self ..)
theorem Lay.mem2 (l : Lay) (g : Ga) : l.irow g ∈ l.heap g := List.mem_cons_of_mem _ (List.mem_cons_of_mem _ (List.mem_cons_self ..))

theorem cell (h : Own.Has w (l.heap g)) (j : Nat) (v : Value) (hj : (front g.n l.sb l.ib g.many l.pb l.wb)[j]? = some v) : w.cell? ⟨l.gb, j, none⟩ = some v := by
  refine h.cell l.gb _ _ (l.mem0 g) j v ?_
  have : j < (front g.n l.sb l.ib g.many l.pb l.wb).length := (List.getElem?_eq_some_iff.1 hj).1
  rw [List.getElem?_append_left this]
  exact hj

theorem free (h : Own.Has w (l.heap g)) (j : Nat) : w.frozen? ⟨l.gb, j, none⟩ = false := h.free l.gb _ _ (l.mem0 g) j
theorem cellS (h : Own.Has w (l.heap g)) (j : Nat) (v : Value) (hj : l.vs[j]? = some v) : w.cell? ⟨l.sb, j, none⟩ = some v := h.cell l.sb _ _ (l.mem1 g) j v hj
theorem freeS (h : Own.Has w (l.heap g)) (j : Nat) : w.frozen? ⟨l.sb, j, none⟩ = false := h.free l.sb _ _ (l.mem1 g) j
theorem cellI (h : Own.Has w (l.heap g)) (j : Nat) (hj : j < g.ids.length) : w.cell? ⟨l.ib, j, none⟩ = some (.int .i64 ((g.ids[j]'hj : Nat) : Int)) := h.cell l.ib _ _ (l.mem2 g) j _ (by simp [Purse.ints, hj])
theorem freeI (h : Own.Has w (l.heap g)) (j : Nat) : w.frozen? ⟨l.ib, j, none⟩ = false := h.free l.ib _ _ (l.mem2 g) j

theorem perm_purse (l : Lay) (g : Ga) : (l.heap g).Perm (l.purse g ++ (l.row g :: l.srow :: l.irow g :: (l.hw ++ (l.ht ++ l.hs)))) := by
  refine Own.perm_of_count _ _ fun x => ?_
  unfold Lay.heap
  simp only [List.count_append, List.count_cons]
  omega

theorem purse (h : Own.Has w (l.heap g)) : Own.Has w (l.purse g) := (h.perm (perm_purse l g)).left

theorem perm_sess (l : Lay) (g : Ga) (h1 h0 h2 : Own.Heap) (e : l.hs = h1 ++ (h0 ++ h2)) : (l.heap g).Perm (h0 ++ (l.row g :: l.srow :: l.irow g :: (l.purse g ++ (l.hw ++ (l.ht ++ (h1 ++ h2)))))) := by
  refine Own.perm_of_count _ _ fun x => ?_
  unfold Lay.heap
  rw [e]
  simp only [List.count_append, List.count_cons]
  omega

theorem sess (h : Own.Has w (l.heap g)) (h1 h0 h2 : Own.Heap) (e : l.hs = h1 ++ (h0 ++ h2)) : Own.Has w h0 := (h.perm (perm_sess l g h1 h0 h2 e)).left

def Ga.putPu (g : Ga) (i x : Nat) : Ga := { g with pu := g.pu.put i x }

theorem Lay.Good.putPu (k : l.Good g) (i x : Nat) (h : i < g.n) (hm : Purse.over x ≤ g.pu.left + Purse.over (g.pu.has.getD i 0)) : l.Good (g.putPu i x) :=
  ⟨k.len, k.ids, (List.length_set ..).trans k.pun, k.pu.put i x (by rw [k.pun]; exact h) hm, k.wheel, k.timer, k.slots⟩

set_option maxRecDepth 100000 in
set_option maxHeartbeats 1000000 in
/-- The purse is told what a slot's session holds. -/
theorem charge_any (k : l.Good g) (h : Own.Has w (l.heap g)) (i : Nat) (s : Se) (hs : g.slots[i]? = some (some s)) (ho : g.pu.opn[i]? = some true) (hc : s.charge ≤ 700) (hout : s.out.length ≤ 10000) :
    Calls Try.prog 24 #[.pointer (some ⟨l.gb, 0, none⟩), .int .i64 (i : Int)] w fun e w' => (∃ v, e = .returned v) ∧
      l.Good (g.putPu i s.charge) ∧ Own.Turn (l.heap g) (l.heap (g.putPu i s.charge)) w w' := by
  have hi : i < g.n := by rw [← k.len]; exact (List.getElem?_eq_some_iff.1 hs).1
  have hip : i < g.pu.has.length := by rw [k.pun]; exact hi
  obtain ⟨b, h1, h0, h2, a1, a2, a3, a4, a5⟩ := k.slots.some_at i s hs
  have c0 := cell h 0 _ rfl
  have c3 := cell h 3 _ rfl
  have cs := cellS h i _ a1
  have hover : Purse.over s.charge = 0 := by unfold Purse.over; omega
  have ho2 : g.pu.opn[i]'(k.pu.same ▸ hip) = true := by
    rw [List.getElem?_eq_getElem (k.pu.same ▸ hip)] at ho
    exact Option.some.inj ho
  have HC := Lib.hid (fun W (hW : Own.Has W h0) => Sess.charge_any a3 hW hout)
  have H0 := Lib.hid (sess h h1 h0 h2 a2)
  have HS := Lib.hid (fun W (hW : Own.Has W (l.purse g)) => Purse.set_any hW k.pu i s.charge hip (by omega) ho2 (by rw [hover]; exact Nat.zero_le _))
  have HG := Lib.hid (k.putPu i s.charge hi (by rw [hover]; exact Nat.zero_le _))
  have hI : (i : Int) < (g.n : Int) := by omega
  have HH := Lib.hid h
  obtain ⟨C, hC⟩ : ∃ C, C = s.charge := ⟨_, rfl⟩
  rw [← hC] at HC HS HG ⊢
  clear hC hc ho ho2 hover a4 a5 a3 a2 hs hip hout
  go_enter Try.func24, Try.ntmps24
  go_wp2
  go_region_with (first | (refine (HC.out _ H0.out.drew).mono ?_; rintro e W1 ⟨rfl, n1, rfl⟩) | (refine (HS.out _ ((purse HH.out).drewN _)).mono ?_; rintro e W1 ⟨rfl, ht⟩))
  all_goals go_wp2
  all_goals go_end0
  all_goals exact ⟨⟨_, rfl⟩, HG.out, ((Own.Turn.refl HH.out).drewN _).trans (Own.Turn.focus (HH.out.drewN _) (perm_purse l g) (fun _ => ht) (perm_purse l (g.putPu i C)))⟩

end
end Gate
end Go.Proofs.Ytpeimoknmlmppaa
