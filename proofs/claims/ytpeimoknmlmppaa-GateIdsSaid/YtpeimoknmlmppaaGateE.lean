/- A session at a gateway whose last bytes went out: its slot is free again. -/
import Derived.Test.YtpeimoknmlmppaaGateT
import Derived.Test.YtpeimoknmlmppaaWheelT
import Derived.Test.YtpeimoknmlmppaaTimerT
namespace Go.Proofs.Ytpeimoknmlmppaa
open Go.RowKit
namespace Gate

theorem erase_split (l : List Nat) (x : Nat) : l.take (l.idxOf x) ++ l.drop (l.idxOf x + 1) = l.erase x := by
  induction l with
  | nil => simp
  | cons y l ih =>
    by_cases h : y = x
    · subst h; simp
    · rw [show (y :: l).idxOf x = l.idxOf x + 1 by rw [List.idxOf_cons, show (y == x) = false from beq_eq_false_iff_ne.mpr h]; rfl, List.take_succ_cons, List.drop_succ_cons, List.cons_append, ih, List.erase_cons_tail (by simpa using h)]

/-- What a gateway is whose slot i was freed. -/
def Ga.free_ (g : Ga) (i x : Nat) (es : Timer.Ents) : Ga :=
  { n := g.n, slots := g.slots.set i none, ids := g.ids, many := g.many, pu := ((g.pu.put i x).put i 0).turn i false, turns := g.turns.erase i, es := es }

theorem Ga.Ok.free_ {g : Ga} (o : g.Ok) (i x c : Nat) (r : Timer.Rec) (A B : Timer.Ents) (s : Se) (hs : g.slots[i]? = some (some s)) (he : g.es.map Prod.fst = (A ++ (i, c, r) :: B).map Prod.fst) : (g.free_ i x (A ++ B)).Ok := by
  have hl : i < g.slots.length := (List.getElem?_eq_some_iff.1 hs).1
  have hne : ∀ j u, (g.free_ i x (A ++ B)).slots[j]? = some (some u) → i ≠ j ∧ g.slots[j]? = some (some u) := by
    intro j u hj
    by_cases hij : i = j
    · subst hij
      rw [show (g.free_ i x (A ++ B)).slots = g.slots.set i none from rfl, List.getElem?_set_self hl] at hj
      simp at hj
    · exact ⟨hij, by rw [show (g.free_ i x (A ++ B)).slots = g.slots.set i none from rfl, List.getElem?_set_ne hij] at hj; exact hj⟩
  have hno : ∀ j, (g.free_ i x (A ++ B)).slots[j]? = some none → i = j ∨ g.slots[j]? = some none := by
    intro j hj
    by_cases hij : i = j
    · exact .inl hij
    · exact .inr (by rw [show (g.free_ i x (A ++ B)).slots = g.slots.set i none from rfl, List.getElem?_set_ne hij] at hj; exact hj)
  have hk : (A ++ (i, c, r) :: B).map Prod.fst = A.map Prod.fst ++ i :: B.map Prod.fst := by simp
  rw [hk] at he
  have hon := o.once
  rw [he] at hon
  have hni : i ∉ (A ++ B).map Prod.fst := by
    rw [List.map_append, List.mem_append]
    have h1 := List.nodup_append.1 hon
    rintro (h2 | h2)
    · exact h1.2.2 i h2 i (List.mem_cons_self ..) rfl
    · exact (List.nodup_cons.1 h1.2.1).1 h2
  refine ⟨o.pos, (List.length_set ..).trans o.len, ?_, ?_, ?_, ?_, ?_, ?_, o.ids, ?_, ?_, ?_, ?_, o.many⟩
  · intro j u hj
    obtain ⟨h1, h2⟩ := hne j u hj
    have := o.timed j u h2
    rw [he] at this
    show j ∈ (A ++ B).map Prod.fst
    rw [List.map_append, List.mem_append]
    rcases List.mem_append.1 this with h3 | h3
    · exact .inl h3
    · rcases List.mem_cons.1 h3 with h4 | h4
      · exact absurd h4.symm h1
      · exact .inr h4
  · intro j hj
    rcases hno j hj with h1 | h1
    · subst h1; exact hni
    · have := o.untimed j h1
      rw [he] at this
      show j ∉ (A ++ B).map Prod.fst
      rw [List.map_append, List.mem_append]
      rintro (h3 | h3)
      · exact this (List.mem_append_left _ h3)
      · exact this (List.mem_append_right _ (List.mem_cons_of_mem _ h3))
  · show ((A ++ B).map Prod.fst).Nodup
    rw [List.map_append]
    have h1 := List.nodup_append.1 hon
    exact List.nodup_append.2 ⟨h1.1, (List.nodup_cons.1 h1.2.1).2, fun a ha b hb => h1.2.2 a ha b (List.mem_cons_of_mem _ hb)⟩
  · show (g.pu.has.set i x).set i 0 = (g.slots.set i none).map chargeO
    rw [List.set_set, o.has, List.map_set]
    rfl
  · show g.pu.opn.set i false = (g.slots.set i none).map Option.isSome
    rw [o.opn, List.map_set]
    rfl
  · intro u hu
    rcases List.mem_or_eq_of_mem_set hu with h1 | h1
    · exact o.sess u h1
    · simp at h1
  · intro j hj
    show j ∉ g.turns.erase i
    rcases hno j hj with h1 | h1
    · subst h1; exact o.turnsOnce.not_mem_erase
    · intro h2; exact o.turns j h1 (List.mem_of_mem_erase h2)
  · exact o.turnsOnce.erase i
  · intro j u hj
    obtain ⟨h1, h2⟩ := hne j u hj
    exact (List.mem_erase_of_ne (fun e => h1 e.symm)).2 (o.turnsLive j u h2)
  · exact Nat.le_trans (List.length_erase_le ..) o.few

section
variable {l : Lay} {g : Ga} {w : World}

theorem turn_free {a h1 h2 : Own.Heap} {u v : World} (t : Own.Turn a (({ l with hs := h1 ++ h2 } : Lay).heap g) u v) (j : Nat) (x : Value) (hj : j < l.vs.length) (S : List (Option Se)) :
    Own.Turn a (({ l with vs := l.vs.set j x, hs := h1 ++ h2 } : Lay).heap { g with slots := S }) u (v.setCell ⟨l.sb, j, none⟩ x) := by
  have t1 := Own.Turn.setAt (A := [_]) t j x hj
  exact t1

theorem perm_drop (l : Lay) (g : Ga) (h1 h0 h2 : Own.Heap) : (({ l with hs := h1 ++ (h0 ++ h2) } : Lay).heap g).Perm ((({ l with hs := h1 ++ h2 } : Lay).heap g) ++ h0) := by
  refine Own.perm_of_count _ _ fun x => ?_
  unfold Lay.heap Lay.row Lay.srow Lay.irow Lay.purse
  simp only [List.count_append, List.count_cons]
  omega

set_option maxRecDepth 100000 in
set_option maxHeartbeats 4000000 in
theorem write_any (k : l.Good g) (o : g.Ok) (h : Own.Has w (l.heap g)) (id : Int) (m : Nat) (hm : m ≤ 1000) (i : Nat) (hf : g.find id = some i) (s : Se) (hs : g.slots[i]? = some (some s)) (hend : s.ended = true) (hout : s.out ≠ []) (hlen : s.out.length ≤ m) :
    Calls Try.prog 15 #[.pointer (some ⟨l.gb, 0, none⟩), .int .i64 id, .int .i64 (m : Int)] w fun e w' => e = .returned (.string ⟨s.out.toArray⟩) ∧
      ∃ l' g', Lay.Good l' g' ∧ g'.Ok ∧ g'.slots = g.slots.set i none ∧ g'.n = g.n ∧ g'.ids = g.ids ∧ g'.many = g.many ∧ g'.pu.rest = g.pu.rest ∧ g'.turns = g.turns.erase i ∧ l'.gb = l.gb ∧ Own.Turn (l.heap g) (l'.heap g') w w' := by
  have HO := Lib.hid (of_any k h id o.pos)
  rw [hf] at HO
  have hil : i < g.n := by rw [← k.len]; exact (List.getElem?_eq_some_iff.1 hs).1
  have ho2 := o.opn_at i s hs
  have hsm := o.sess s (List.mem_of_getElem? hs)
  obtain ⟨bb, h1, h0, h2, hv, a2, a3, a4, a5⟩ := k.slots.some_at i s hs
  have HF := Sess.write_any a3 (sess h h1 h0 h2 a2) m hm (by omega)
  rw [List.take_of_length_le hlen] at HF
  obtain ⟨s', hs'⟩ : ∃ s', s' = s.write m := ⟨_, rfl⟩
  rw [← hs'] at HF
  have hout' : s'.out = [] := by rw [hs']; exact List.drop_of_length_le hlen
  have hsm' : s'.inb.length ≤ 64 ∧ s'.out.length ≤ 64 := by rw [hout', hs']; exact ⟨hsm.1, Nat.zero_le _⟩
  have hcl : s'.closed = true := by
    unfold Se.closed
    rw [hout', hs']
    show (s.ended && true) = true
    rw [hend]
    rfl
  have HV := Lib.hid hv
  have HH := Lib.hid h
  have HC := Lib.hid (fun (h0' : Own.Heap) (is' : Sess.Is s' bb h0') W (hW : Own.Has W (({ l with hs := h1 ++ (h0' ++ h2) } : Lay).heap (g.setS i s'))) =>
    charge_any (k.setS i s' _ (a4 _ h0' is')) hW i s' (by show (g.slots.set i (some s'))[i]? = _; rw [List.getElem?_set_self (by rw [k.len]; exact hil)]) ho2 (Nat.le_trans (Se.charge_le _ hsm') (by omega)) (by omega))
  obtain ⟨A, c, r, B, he, hA⟩ := timed_split g.es i (o.timed i s hs)
  have hB : ∀ e ∈ B, e.1 ≠ i := by
    intro e hb hei
    have h9 := o.once
    rw [he, List.map_append, List.map_cons] at h9
    exact (List.nodup_cons.1 (List.nodup_append.1 h9).2.1).1 (by show i ∈ B.map Prod.fst; rw [← hei]; exact List.mem_map_of_mem hb)
  obtain ⟨S, hS⟩ : ∃ S : ByteArray, S = ⟨s.out.toArray⟩ := ⟨_, rfl⟩
  have hSne : S.toList.isEmpty = false := by
    rw [ByteArray.toList_eq, hS]
    cases hso : s.out with
    | nil => exact absurd hso hout
    | cons x l => rfl
  rw [← hS] at HF ⊢
  have HF2 := Lib.hid HF
  have HA := Lib.hid (And.intro a2 (And.intro hil (And.intro he (And.intro hA (And.intro hB (And.intro a5 (And.intro hcl (And.intro o (And.intro k (And.intro hs ho2))))))))))
  clear k h ho2 hsm hsm' hv a2 a3 a4 a5 hf hs o hil hend hout hlen HF hs' hout' hcl he hA hB hS hm
  go_enter Try.func15, Try.ntmps15
  go_wp2_with (fail)
  refine HO.out.mono ?_
  rintro e W1 ⟨rfl, rfl⟩
  simp only [ofOut, HV.out]
  go_wp2_with (fail)
  refine HF2.out.mono ?_
  rintro e W2 ⟨rfl, h0', is', ht⟩
  have t1 : Own.Turn (l.heap g) (({ l with hs := h1 ++ (h0' ++ h2) } : Lay).heap (g.setS i s')) _ W2 :=
    Own.Turn.focus HH.out (perm_sess l g h1 h0 h2 HA.out.1) (fun _ => ht) (perm_sess _ _ h1 h0' h2 rfl)
  have IS := Lib.hid is'
  go_wp2_with (fail)
  refine (HC.out h0' is' W2 t1.has).mono ?_
  rintro e W3 ⟨⟨v3, rfl⟩, k3, t3⟩
  have T3 := Lib.hid (t1.trans t3)
  have K3 := Lib.hid k3
  clear t1 t3 k3 ht is' HC HF2 HO
  have HT4 := Lib.hid (Timer.touch_any (es := g.es) A B c r i HA.out.2.2.1 HA.out.2.2.2.1 (by have := HA.out.2.2.2.2.2.2.2.2.1.small; have := HA.out.2.1; omega) (T3.out.has.perm (perm_timer _ _)).left K3.out.timer 5 rfl)
  go_wp2_with (fail)
  refine HT4.out.mono ?_
  rintro e W4 ⟨rfl, ht4, m4, t4⟩
  have T4 := Lib.hid (T3.out.trans (Own.Turn.focus T3.out.has (perm_timer _ _) (fun _ => t4) (perm_timer { l with hs := h1 ++ (h0' ++ h2), ht := ht4 } ((g.setS i s').putPu i s'.charge))))
  have M4 := Lib.hid m4
  clear t4 m4 HT4 T3
  have HCl := Lib.hid (Sess.closed_any IS.out (sess T4.out.has h1 h0' h2 rfl))
  rw [HA.out.2.2.2.2.2.2.1] at HCl
  go_wp2_with (fail)
  refine HCl.out.mono ?_
  rintro e W5 ⟨rfl, rfl⟩
  have hip : i < (g.pu.put i s'.charge).has.length := by
    show i < (g.pu.has.set i _).length
    rw [List.length_set, HA.out.2.2.2.2.2.2.2.2.1.pun]
    exact HA.out.2.1
  have ho9 : (g.pu.put i s'.charge).opn[i]'(K3.out.pu.same ▸ hip) = true := by
    have h9 : (g.pu.put i s'.charge).opn[i]? = some true := HA.out.2.2.2.2.2.2.2.2.2.2
    rw [List.getElem?_eq_getElem (K3.out.pu.same ▸ hip)] at h9
    exact Option.some.inj h9
  have e3 : W5.cell? ⟨l.gb, 3, none⟩ = some (.pointer (some ⟨l.pb, 0, none⟩)) := cell T4.out.has 3 _ rfl
  have HP6 := Lib.hid (Purse.close_any (purse T4.out.has) K3.out.pu i hip ho9)
  clear HCl hip ho9
  go_wp2_with (fail)
  refine HP6.out.mono ?_
  rintro e W6 ⟨⟨v6, rfl⟩, t6⟩
  have T6 := Lib.hid (T4.out.trans (Own.Turn.focus T4.out.has (perm_purse _ _) (fun _ => t6) (perm_purse { l with hs := h1 ++ (h0' ++ h2), ht := ht4 } { (g.setS i s').putPu i s'.charge with pu := ((g.pu.put i s'.charge).put i 0).turn i false })))
  clear t6 HP6 e3 T4
  have e4 : W6.cell? ⟨l.gb, 4, none⟩ = some (.pointer (some ⟨l.wb, 0, none⟩)) := cell T6.out.has 4 _ rfl
  have HW7 := Wheel.remove_any K3.out.wheel (T6.out.has.perm (perm_wheel _ _)).left (by have := HA.out.2.2.2.2.2.2.2.1.few; show g.turns.length ≤ 1000; omega) i (HA.out.2.2.2.2.2.2.2.1.turnsLive i s HA.out.2.2.2.2.2.2.2.2.2.1)
  rw [erase_split] at HW7
  have HW7 := Lib.hid HW7
  go_wp2_with (fail)
  refine HW7.out.mono ?_
  rintro e W7 ⟨rfl, hw7, wi7, t7⟩
  have T7 := Lib.hid (T6.out.trans (Own.Turn.focus T6.out.has (perm_wheel _ _) (fun _ => t7) (perm_wheel { l with hs := h1 ++ (h0' ++ h2), ht := ht4, hw := hw7 } { (g.setS i s').putPu i s'.charge with pu := ((g.pu.put i s'.charge).put i 0).turn i false, turns := g.turns.erase i })))
  have WI7 := Lib.hid wi7
  clear t7 HW7 e4 T6 wi7
  have HT8 := Lib.hid (Timer.stop_any A B c { r with active := ((0 : Nat) : Int) } i rfl HA.out.2.2.2.1 HA.out.2.2.2.2.1 (by have := HA.out.2.2.2.2.2.2.2.2.1.small; have := HA.out.2.1; omega) (T7.out.has.perm (perm_timer _ _)).left M4.out 5 rfl)
  go_wp2_with (fail)
  refine HT8.out.mono ?_
  rintro e W8 ⟨rfl, ht8, m8, t8⟩
  have T8 := T7.out.trans (Own.Turn.focus T7.out.has (perm_timer _ _) (fun _ => t8) (perm_timer { l with hs := h1 ++ (h0' ++ h2), ht := ht8, hw := hw7 } { (g.setS i s').putPu i s'.charge with pu := ((g.pu.put i s'.charge).put i 0).turn i false, turns := g.turns.erase i }))
  have M8 := Lib.hid m8
  have T9 := Own.Turn.drop (T8.perm (List.Perm.refl _) (perm_drop { l with ht := ht8, hw := hw7 } _ h1 h0' h2))
  clear t8 HT8 T7 m8 T8
  have hiv : i < l.vs.length := by rw [HA.out.2.2.2.2.2.2.2.2.1.vlen]; exact HA.out.2.1
  have e0 : W8.cell? ⟨l.gb, 0, none⟩ = some (.slice (some ⟨l.sb, 0, none⟩) g.n g.n) := cell T9.has 0 _ rfl
  have es : W8.cell? ⟨l.sb, i, none⟩ = some (.pointer (some ⟨bb, 0, none⟩)) := cellS T9.has i _ HV.out
  have fs : W8.frozen? ⟨l.sb, i, none⟩ = false := freeS T9.has i
  have T10 := Lib.hid (turn_free (l := { l with ht := ht8, hw := hw7 }) T9 i (.pointer none) hiv (g.slots.set i none))
  have hI : (i : Int) < (g.n : Int) := by have := HA.out.2.1; omega
  clear T9 hiv
  go_wp2
  go_ret
  have P := K3.out.pu
  refine ⟨rfl, { l with vs := l.vs.set i (.pointer none), hs := h1 ++ h2, ht := ht8, hw := hw7 }, g.free_ i s'.charge (A ++ B), ?_, HA.out.2.2.2.2.2.2.2.1.free_ i s'.charge c r A B s HA.out.2.2.2.2.2.2.2.2.2.1 (by rw [HA.out.2.2.1]), rfl, rfl, rfl, rfl, rfl, rfl, rfl, ?_⟩
  · exact ⟨(List.length_set ..).trans HA.out.2.2.2.2.2.2.2.2.1.len, HA.out.2.2.2.2.2.2.2.2.1.ids, (List.length_set ..).trans ((List.length_set ..).trans HA.out.2.2.2.2.2.2.2.2.1.pun), (P.put i 0 (by show i < (g.pu.has.set i _).length; rw [List.length_set, HA.out.2.2.2.2.2.2.2.2.1.pun]; exact HA.out.2.1) (Nat.le_trans (Nat.le_of_eq rfl) (Nat.zero_le _))).turn i false, WI7.out, M8.out, HA.out.2.2.2.2.2.1⟩
  · exact T10.out
end
end Gate
end Go.Proofs.Ytpeimoknmlmppaa
