/- Bytes that come to a gateway's session. -/
import Derived.Test.YtpeimoknmlmppaaGateA
namespace Go.Proofs.Ytpeimoknmlmppaa
open Go.RowKit
namespace Gate

theorem timed_split (es : Timer.Ents) (k : Nat) (h : k ∈ es.map Prod.fst) : ∃ A c r B, es = A ++ (k, c, r) :: B ∧ ∀ e ∈ A, e.1 ≠ k := by
  induction es with
  | nil => simp at h
  | cons e es ih =>
    by_cases hk : e.1 = k
    · obtain ⟨k', c, r⟩ := e
      simp only at hk
      subst hk
      exact ⟨[], c, r, es, rfl, by simp⟩
    · have h2 : k ∈ es.map Prod.fst := by
        rw [List.map_cons] at h
        rcases List.mem_cons.1 h with h1 | h1
        · exact absurd h1.symm hk
        · exact h1
      obtain ⟨A, c, r, B, h3, h4⟩ := ih h2
      refine ⟨e :: A, c, r, B, by rw [h3]; rfl, fun e' he' => ?_⟩
      rcases List.mem_cons.1 he' with rfl | h5
      · exact hk
      · exact h4 e' h5

/-- The gateway with another session in slot i. -/
def Ga.setS (g : Ga) (i : Nat) (s : Se) : Ga := { g with slots := g.slots.set i (some s) }

theorem Lay.Good.setS {l : Lay} {g : Ga} (k : l.Good g) (i : Nat) (s : Se) (hs : Own.Heap) (sl : Slots (g.slots.set i (some s)) l.vs hs) : ({ l with hs := hs } : Lay).Good (g.setS i s) :=
  ⟨(List.length_set ..).trans k.len, k.ids, k.pun, k.pu, k.wheel, k.timer, sl⟩

theorem Ga.Ok.setS {g : Ga} (o : g.Ok) (i : Nat) (s t : Se) (hs : g.slots[i]? = some (some s)) (ht : t.inb.length ≤ 64 ∧ t.out.length ≤ 64) : ((g.setS i t).putPu i t.charge).Ok where
  pos := o.pos
  len := (List.length_set ..).trans o.len
  timed := by
    intro j u hj
    by_cases hij : i = j
    · subst hij; exact o.timed i s hs
    · exact o.timed j u (by rw [show ((g.setS i t).putPu i t.charge).slots = g.slots.set i (some t) from rfl, List.getElem?_set_ne hij] at hj; exact hj)
  untimed := by
    intro j hj
    by_cases hij : i = j
    · subst hij
      have hl : i < g.slots.length := (List.getElem?_eq_some_iff.1 hs).1
      rw [show ((g.setS i t).putPu i t.charge).slots = g.slots.set i (some t) from rfl, List.getElem?_set_self hl] at hj
      simp at hj
    · exact o.untimed j (by rw [show ((g.setS i t).putPu i t.charge).slots = g.slots.set i (some t) from rfl, List.getElem?_set_ne hij] at hj; exact hj)
  once := o.once
  has := by
    show g.pu.has.set i t.charge = (g.slots.set i (some t)).map chargeO
    rw [o.has, List.map_set]
    rfl
  opn := by
    show g.pu.opn = (g.slots.set i (some t)).map Option.isSome
    rw [o.opn, List.map_set]
    have : (g.slots.map Option.isSome)[i]? = some true := by rw [List.getElem?_map, hs]; rfl
    apply List.ext_getElem?
    intro j
    by_cases hij : i = j
    · subst hij
      have hl : i < (g.slots.map Option.isSome).length := (List.getElem?_eq_some_iff.1 this).1
      rw [List.getElem?_set_self hl, this]
      rfl
    · rw [List.getElem?_set_ne hij]
  sess := by
    intro u hu
    rcases List.mem_or_eq_of_mem_set hu with h1 | h1
    · exact o.sess u h1
    · rw [Option.some.inj h1]; exact ht
  ids := o.ids
  turns := by
    intro j hj
    by_cases hij : i = j
    · subst hij
      have hl : i < g.slots.length := (List.getElem?_eq_some_iff.1 hs).1
      rw [show ((g.setS i t).putPu i t.charge).slots = g.slots.set i (some t) from rfl, List.getElem?_set_self hl] at hj
      simp at hj
    · exact o.turns j (by rw [show ((g.setS i t).putPu i t.charge).slots = g.slots.set i (some t) from rfl, List.getElem?_set_ne hij] at hj; exact hj)
  turnsOnce := o.turnsOnce
  turnsLive := by
    intro j u hj
    by_cases hij : i = j
    · subst hij; exact o.turnsLive i s hs
    · exact o.turnsLive j u (by rw [show ((g.setS i t).putPu i t.charge).slots = g.slots.set i (some t) from rfl, List.getElem?_set_ne hij] at hj; exact hj)
  few := o.few
  many := o.many

theorem Ga.Ok.touch {g : Ga} (o : g.Ok) (es : Timer.Ents) (h : es.map Prod.fst = g.es.map Prod.fst) : ({ g with es := es } : Ga).Ok :=
  ⟨o.pos, o.len, fun i s hs => by show i ∈ es.map Prod.fst; rw [h]; exact o.timed i s hs, fun i hs => by show i ∉ es.map Prod.fst; rw [h]; exact o.untimed i hs, by show (es.map Prod.fst).Nodup; rw [h]; exact o.once, o.has, o.opn, o.sess, o.ids, o.turns, o.turnsOnce, o.turnsLive, o.few, o.many⟩

/-- All but slots, charges and times is as it was. -/
structure Ga.Like (g g' : Ga) : Prop where
  n : g'.n = g.n
  ids : g'.ids = g.ids
  many : g'.many = g.many
  turns : g'.turns = g.turns
  rest : g'.pu.rest = g.pu.rest

theorem takes_le (s : Se) (b : List UInt8) (room : Nat) (h : s.inb.length ≤ 64) : (s.feed b room).inb.length ≤ 64 := by
  show (s.inb ++ b.take (s.takes b room)).length ≤ 64
  rw [List.length_append, List.length_take]
  unfold Se.takes
  split <;> omega

section
variable {l : Lay} {g : Ga} {w : World}

theorem perm_timer (l : Lay) (g : Ga) : (l.heap g).Perm ((l.row g :: l.ht) ++ (l.srow :: l.irow g :: (l.purse g ++ (l.hw ++ l.hs)))) := by
  refine Own.perm_of_count _ _ fun x => ?_
  unfold Lay.heap
  simp only [List.count_append, List.count_cons]
  omega

set_option maxRecDepth 100000 in
set_option maxHeartbeats 2000000 in
theorem chunk_any (k : l.Good g) (o : g.Ok) (h : Own.Has w (l.heap g)) (id : Int) (b : ByteArray) (hb : b.size ≤ 1000) (i : Nat) (hf : g.find id = some i) (s : Se) (hs : g.slots[i]? = some (some s)) :
    Calls Try.prog 10 #[.pointer (some ⟨l.gb, 0, none⟩), .int .i64 id, .string b] w fun e w' => e = .returned (.int .i64 ((s.takes b.data.toList (700 - s.charge + g.pu.rest) : Nat) : Int)) ∧
      ∃ l' g', Lay.Good l' g' ∧ g'.Ok ∧ g'.slots = g.slots.set i (some (s.feed b.data.toList (700 - s.charge + g.pu.rest))) ∧ g.Like g' ∧ l'.gb = l.gb ∧ Own.Turn (l.heap g) (l'.heap g') w w' := by
  obtain ⟨R, hR⟩ : ∃ R, R = 700 - s.charge + g.pu.rest := ⟨_, rfl⟩
  rw [← hR]
  have c3 := cell h 3 _ rfl
  have HO := Lib.hid (of_any k h id o.pos)
  rw [hf] at HO
  have hil : i < g.n := by rw [← k.len]; exact (List.getElem?_eq_some_iff.1 hs).1
  have ha := o.has_at i s hs
  have hip : i < g.pu.has.length := (List.getElem?_eq_some_iff.1 ha).1
  have ho := o.opn_at i s hs
  have ho2 := ho
  rw [List.getElem?_eq_getElem (k.pu.same ▸ hip)] at ho
  obtain ⟨bb, h1, h0, h2, hv, a2, a3, a4, a5⟩ := k.slots.some_at i s hs
  have hsm := o.sess s (List.mem_of_getElem? hs)
  have hsmall : R ≤ 41000 := by have := k.pu.small; omega
  have HL := Lib.hid (Purse.left_any (purse h) k.pu i hip (Option.some.inj ho))
  have hRR : 700 - g.pu.has[i]'hip + g.pu.left = R := by
    rw [List.getElem?_eq_getElem hip] at ha
    rw [Option.some.inj ha, o.left, hR]
  rw [hRR] at HL
  have HF := Lib.hid (fun W (hW : Own.Has W h0) => Sess.feed_any a3 hW b (by omega) R (by omega))
  have H0 := Lib.hid (sess h h1 h0 h2 a2)
  have HV := Lib.hid hv
  obtain ⟨s', hs'⟩ : ∃ s', s' = s.feed b.data.toList R := ⟨_, rfl⟩
  have hs'm : s'.inb.length ≤ 64 ∧ s'.out.length ≤ 64 := by
    rw [hs']
    exact ⟨takes_le s _ _ hsm.1, hsm.2⟩
  have HH := Lib.hid h
  have HC := Lib.hid (fun (h0' : Own.Heap) (is' : Sess.Is s' bb h0') W (hW : Own.Has W (({ l with hs := h1 ++ (h0' ++ h2) } : Lay).heap (g.setS i s'))) =>
    charge_any (k.setS i s' _ (a4 s' h0' is')) hW i s' (by show (g.slots.set i (some s'))[i]? = _; rw [List.getElem?_set_self (by rw [k.len]; exact hil)]) ho2 (Nat.le_trans (Se.charge_le s' hs'm) (by omega)) (by omega))
  have HK := Lib.hid (o.setS i s s' hs hs'm)
  obtain ⟨A, c, r, B, he, hA⟩ := timed_split g.es i (o.timed i s hs)
  rw [← hs'] at HF ⊢
  obtain ⟨T, hT⟩ : ∃ T, T = s.takes b.data.toList R := ⟨_, rfl⟩
  rw [← hT] at HF ⊢
  have HA := Lib.hid (And.intro a2 (And.intro hil (And.intro he hA)))
  have Hid := Lib.hid (And.intro trivial (And.intro hb k))
  clear k h hb ho ho2 hsm hsmall hRR hR hs' hs'm hv ha a2 a3 a4 a5 hT he hA hip hf hs o hil
  go_enter Try.func10, Try.ntmps10
  go_wp2_with (fail)
  refine HO.out.mono ?_
  rintro e W1 ⟨rfl, rfl⟩
  simp only [ofOut, HV.out]
  go_wp2_with (fail)
  refine HL.out.mono ?_
  rintro e W1 ⟨rfl, n1, rfl⟩
  go_wp2_with (fail)
  refine (HF.out _ (H0.out.drewN n1)).mono ?_
  rintro e W2 ⟨rfl, h0', is', ht⟩
  have t1 : Own.Turn (l.heap g) (({ l with hs := h1 ++ (h0' ++ h2) } : Lay).heap (g.setS i s')) (World.drewN _ n1) W2 :=
    Own.Turn.focus (HH.out.drewN n1) (perm_sess l g h1 h0 h2 HA.out.1) (fun _ => ht) (perm_sess _ _ h1 h0' h2 rfl)
  go_wp2_with (fail)
  refine (HC.out h0' is' W2 t1.has).mono ?_
  rintro e W3 ⟨⟨v3, rfl⟩, k3, t3⟩
  by_cases hT0 : T = 0
  · have hT1 : (T : Int) = 0 := by omega
    have hlt : ¬ (0 : Int) < (T : Int) := by omega
    clear hT0
    go_wp2
    go_ret
    refine ⟨by first | rfl | (rw [hT1]; rfl) | exact Own.ret_int (by omega), _, _, k3, HK.out, rfl, ⟨rfl, rfl, rfl, rfl, rfl⟩, rfl, ?_⟩
    exact (((Own.Turn.refl HH.out).drewN n1).trans t1).trans t3
  · have hlt : (0 : Int) < (T : Int) := by omega
    clear hT0
    have hk4 := (t3.has.perm (perm_timer _ _)).left
    have HT4 := Lib.hid (Timer.touch_any (es := g.es) A B c r i HA.out.2.2.1 HA.out.2.2.2 (by have := Hid.out.2.2.small; have := HA.out.2.1; omega) hk4 k3.timer 5 rfl)
    go_wp2_with (fail)
    refine HT4.out.mono ?_
    rintro e W4 ⟨rfl, ht4, m4, t4⟩
    go_wp2
    go_ret
    refine ⟨rfl, { l with hs := h1 ++ (h0' ++ h2), ht := ht4 }, { (g.setS i s').putPu i s'.charge with es := A ++ (i, c, { r with active := ((0 : Nat) : Int) }) :: B }, ⟨k3.len, k3.ids, k3.pun, k3.pu, k3.wheel, m4, k3.slots⟩, HK.out.touch _ ?_, rfl, ⟨rfl, rfl, rfl, rfl, rfl⟩, rfl, ?_⟩
    · show _ = g.es.map Prod.fst
      rw [HA.out.2.2.1]
      simp
    · exact ((((Own.Turn.refl HH.out).drewN n1).trans t1).trans t3).trans (Own.Turn.focus t3.has (perm_timer _ _) (fun _ => t4) (perm_timer _ _))
end
end Gate
end Go.Proofs.Ytpeimoknmlmppaa
