/- GateStrange: the walk: ids that are not live are nothing, whatever is asked of them. -/
import Derived.Test.YtpeimoknmlmppaaGateX
namespace Go.Proofs.Ytpeimoknmlmppaa.gateStrange
open Go.RowKit Gate
open Purse (ints)

/-- A gateway of n places with one session, in its first slot. -/
structure First (g : Ga) (m : Nat) (s : Se) : Prop where
  slots : g.slots = (List.replicate m none).set 0 (some s)
  ids : g.ids = List.replicate m 0
  n : g.n = m
  pos : 0 < m

theorem First.at0 {g : Ga} {n : Nat} {s : Se} (f : First g n s) : g.slots[0]? = some (some s) := by
  rw [f.slots, List.getElem?_set_self (by rw [List.length_replicate]; exact f.pos)]

theorem First.find {g : Ga} {n : Nat} {s : Se} (f : First g n s) : g.find 0 = some 0 := by
  unfold Ga.find
  have h0 : (0 : Int).toNat % g.n = 0 := by simp
  rw [if_neg (by omega)]
  simp only [h0, f.at0]
  rw [f.ids, if_pos (by rw [List.getElem?_replicate, if_pos f.pos]; rfl)]

theorem First.strange {g : Ga} {n : Nat} {s : Se} (f : First g n s) (id : Int) (h : id ≠ 0) : g.find id = none := by
  unfold Ga.find
  by_cases hn : id < 0
  · rw [if_pos hn]
  · rw [if_neg hn]
    dsimp only
    by_cases hi : id.toNat % g.n = 0
    · rw [hi, f.at0, f.ids]
      dsimp only
      rw [if_neg]
      rw [List.getElem?_replicate, if_pos f.pos]
      intro e
      have := Option.some.inj e
      omega
    · have hlt : id.toNat % g.n < n := by rw [f.n]; exact Nat.mod_lt _ f.pos
      rw [f.slots, List.getElem?_set_ne (by omega), List.getElem?_replicate, if_pos hlt]

theorem First.live {g : Ga} {n : Nat} {s : Se} (f : First g n s) : g.live.length = 1 := by
  have key : ∀ j, j + 1 ≤ n → (g.liveTo (j + 1)).length = 1 := by
    intro j
    induction j with
    | zero =>
      intro _
      show ([] ++ _ : List Nat).length = 1
      rw [f.at0]
      rfl
    | succ j ih =>
      intro hj
      have h1 := ih (by omega)
      rw [Ga.liveTo, List.length_append, h1, f.slots, List.getElem?_set_ne (by omega), List.getElem?_replicate, if_pos (by omega)]
      rfl
  have := key (n - 1) (by have := f.pos; omega)
  rw [show n - 1 + 1 = n by have := f.pos; omega] at this
  unfold Ga.live
  rw [f.n]
  exact this

theorem First.next {g g' : Ga} {n : Nat} {s s' : Se} (f : First g n s) (h : g'.slots = g.slots.set 0 (some s')) (k : g.Like g') : First g' n s' :=
  ⟨by rw [h, f.slots, List.set_set], k.ids.trans f.ids, k.n.trans f.n, f.pos⟩

theorem first_new (n c : Nat) (h : 0 < n) : First ((Ga.new 40000 n).begin_ 0 c) n Se.new where
  slots := rfl
  ids := by
    show (List.replicate n 0).set 0 (0 + n * 0) = _
    apply List.ext_getElem?
    intro j
    rw [List.getElem?_set]
    split
    · rename_i e; subst e; simp [h]
    · rfl
  n := rfl
  pos := h

set_option maxRecDepth 100000 in
set_option maxHeartbeats 4000000 in
theorem walk (a0 : Int) (a1 : Int) (a2 : ByteArray) (a3 : Int) (_w0 : (Lit.int .i64 a0).wf = true) (_w1 : (Lit.int .i64 a1).wf = true) (_w2 : a2.size ≤ maxLen) (_w3 : (Lit.int .i64 a3).wf = true) (w : World) :
    Calls Try.prog 6 #[.int .i64 a0, .int .i64 a1, .string a2, .int .i64 a3] w fun e w' => e = .returned (.bool true) ∧ Below w.heap.size w w' := by
  have HA := Lib.hid (fun W => alive_any W)
  clear _w0 _w1 _w2 _w3
  rcases (show a0 < 1 ∨ 8 < a0 ∨ (1 ≤ a0 ∧ a0 ≤ 8 ∧ 100 < a2.size) ∨ (1 ≤ a0 ∧ a0 ≤ 8 ∧ a2.size ≤ 100) by omega) with h1 | h1 | ⟨h1, h2, h3⟩ | ⟨h1, h2, h3⟩
  · go_enter Try.func6, Try.ntmps6
    go_wp2_with (fail)
    refine (HA.out _).mono ?_
    rintro e W1 ⟨rfl, b1⟩
    have B1 := Lib.hid b1
    clear b1
    go_wp2
    go_ret
    exact ⟨rfl, B1.out⟩
  · go_enter Try.func6, Try.ntmps6
    go_wp2_with (fail)
    refine (HA.out _).mono ?_
    rintro e W1 ⟨rfl, b1⟩
    have B1 := Lib.hid b1
    clear b1
    go_wp2
    go_ret
    exact ⟨rfl, B1.out⟩
  · have h4 : (100 : Int) < (a2.size : Int) := by omega
    go_enter Try.func6, Try.ntmps6
    go_wp2_with (fail)
    refine (HA.out _).mono ?_
    rintro e W1 ⟨rfl, b1⟩
    have B1 := Lib.hid b1
    clear b1
    go_wp2
    go_ret
    exact ⟨rfl, B1.out⟩
  · obtain ⟨n, rfl⟩ : ∃ n : Nat, a0 = (n : Int) := ⟨a0.toNat, by omega⟩
    have h4 : (a2.size : Int) ≤ 100 := by omega
    have HN := Lib.hid (fun W => new_any 40000 n (by omega) (by omega) (by omega) (by omega) W)
    have O0 := Lib.hid (Ga.Ok.new 40000 n (by omega))
    have hp : 0 < n := by omega
    go_enter Try.func6, Try.ntmps6
    go_wp2_with (fail)
    refine (HA.out _).mono ?_
    rintro e W1 ⟨rfl, b1⟩
    have B1 := Lib.hid b1
    clear b1
    go_wp2_with (fail)
    refine (HN.out _).mono ?_
    rintro e W2 ⟨l0, rfl, k0, t0⟩
    have HC1 := Lib.hid (connect_any k0 O0.out t0.has 0 (by show (List.replicate n (none : Option Se))[0]? = _; rw [List.getElem?_replicate, if_pos hp]) (fun j hj => by omega) (Nat.zero_le _) (Nat.zero_le _))
    rw [show (0 + (Ga.new 40000 n).n * (Ga.new 40000 n).many : Nat) = 0 from rfl] at HC1
    have T0 := Lib.hid t0
    clear k0 t0 HN O0
    go_wp2_with (fail)
    refine HC1.out.mono ?_
    rintro e W3 ⟨rfl, l1, c1, k1, o1, e1, t1⟩
    have P1 := first_new n c1 hp
    generalize (Ga.new 40000 n).begin_ 0 c1 = g1 at *
    have HK2 := Lib.hid (chunk_any k1 o1 t1.has 0 TR (by decide) 0 P1.find Se.new P1.at0)
    rw [e1] at HK2
    have TA := Lib.hid (T0.out.trans t1)
    have PP := Lib.hid P1
    clear HC1 T0 k1 o1 t1 P1 e1
    by_cases hid : a1 = 0
    · have hb : (a1 == (0 : Int)) = true := by rw [hid]; rfl
      have HB := Lib.hid (B1.out.trans ((of_turn TA.out).mono B1.out.size))
      clear hid
      go_wp2
      go_ret
      exact ⟨rfl, HB.out⟩
    · have hb : (a1 == (0 : Int)) = false := by rw [beq_eq_false_iff_ne]; exact hid
      have HID := Lib.hid hid
      clear hid
      go_wp2_with (fail)
      refine HK2.out.mono ?_
      rintro e W4 ⟨rfl, l2, g2, k2, o2, h2', like2, e2, t2⟩
      have P2 := PP.out.next h2' like2
      have T2 := TA.out.trans t2
      have hf := P2.strange a1 HID.out
      have H1 := Lib.hid (total_any k2 T2.has)
      have H2 := Lib.hid (ended_none k2 o2 T2.has a1 hf)
      have H3 := Lib.hid (chunk_none k2 o2 T2.has a1 a2 hf)
      have H4 := Lib.hid (half_none k2 o2 T2.has a1 hf)
      have H5 := Lib.hid (write_none k2 o2 T2.has a1 a3 hf)
      have H6 := Lib.hid (cancel_none k2 o2 T2.has a1 hf)
      have H7 := Lib.hid (chargeOf_any k2 o2 T2.has a1)
      have H8 := Lib.hid (ready_none k2 o2 T2.has a1 hf)
      have H9 := Lib.hid (live_any k2 T2.has)
      rw [hf, show g2.told none = 0 from rfl] at H7
      rw [P2.live] at H9
      rw [e2] at H1 H2 H3 H4 H5 H6 H7 H8 H9
      obtain ⟨T, hT⟩ : ∃ T, T = g2.pu.has.sum := ⟨_, rfl⟩
      rw [← hT] at H1
      have TT2 := Lib.hid T2
      clear k2 o2 h2' like2 e2 t2 P2 T2 hf HK2 hT
      go_wp2_with (fail)
      refine H1.out.mono ?_
      rintro e V1 ⟨rfl, rfl⟩
      go_wp2_with (fail)
      refine H2.out.mono ?_
      rintro e V1 ⟨rfl, rfl⟩
      go_wp2_with (fail)
      refine H3.out.mono ?_
      rintro e V1 ⟨rfl, rfl⟩
      go_wp2_with (fail)
      refine H4.out.mono ?_
      rintro e V1 ⟨rfl, rfl⟩
      go_wp2_with (fail)
      refine H5.out.mono ?_
      rintro e V1 ⟨rfl, rfl⟩
      go_wp2_with (fail)
      refine H6.out.mono ?_
      rintro e V1 ⟨rfl, rfl⟩
      go_wp2_with (fail)
      refine H7.out.mono ?_
      rintro e V1 ⟨rfl, rfl⟩
      go_wp2_with (fail)
      refine H8.out.mono ?_
      rintro e V1 ⟨rfl, rfl⟩
      go_wp2_with (fail)
      refine H1.out.mono ?_
      rintro e V1 ⟨rfl, rfl⟩
      go_wp2_with (fail)
      refine H9.out.mono ?_
      rintro e V1 ⟨ad, c, ho, rfl, hs, t9⟩
      have HB := Lib.hid (B1.out.trans ((of_turn (TT2.out.trans t9)).mono B1.out.size))
      clear hs t9
      go_wp2
      go_ret
      exact ⟨rfl, HB.out⟩
end Go.Proofs.Ytpeimoknmlmppaa.gateStrange
