/- A session at a gateway is cancelled. -/
import Derived.Test.YtpeimoknmlmppaaGateX
import Derived.Test.YtpeimoknmlmppaaSessW
namespace Go.Proofs.Ytpeimoknmlmppaa
open Go.RowKit
namespace Gate

theorem over_charge (s : Se) (e : Nat) : (Sess.over s e).charge = s.out.length + 2 := by
  unfold Se.charge Sess.over
  simp

section
variable {l : Lay} {g : Ga} {w : World}

set_option maxRecDepth 100000 in
set_option maxHeartbeats 2000000 in
theorem cancel_any (k : l.Good g) (o : g.Ok) (h : Own.Has w (l.heap g)) (id : Int) (i : Nat) (hf : g.find id = some i) (s : Se) (hs : g.slots[i]? = some (some s)) (hend : s.ended = false) (hout : s.out.length ≤ 60) :
    Calls Try.prog 14 #[.pointer (some ⟨l.gb, 0, none⟩), .int .i64 id] w fun e w' => e = .returned (.bool true) ∧
      ∃ l' g', Lay.Good l' g' ∧ g'.Ok ∧ g'.slots = g.slots.set i (some (Sess.over s 13)) ∧ g.Like g' ∧ l'.gb = l.gb ∧ Own.Turn (l.heap g) (l'.heap g') w w' := by
  have HO := Lib.hid (of_any k h id o.pos)
  rw [hf] at HO
  have hil : i < g.n := by rw [← k.len]; exact (List.getElem?_eq_some_iff.1 hs).1
  have ho2 := o.opn_at i s hs
  obtain ⟨bb, h1, h0, h2, hv, a2, a3, a4, a5⟩ := k.slots.some_at i s hs
  have HF := Lib.hid (Sess.stop_any a3 (sess h h1 h0 h2 a2) 13 (by omega) (by omega) hend)
  have HV := Lib.hid hv
  have hsm : (Sess.over s 13).inb.length ≤ 64 ∧ (Sess.over s 13).out.length ≤ 64 := by
    constructor
    · exact Nat.zero_le _
    · show (s.out ++ _).length ≤ 64
      rw [List.length_append]
      simp
      omega
  have HH := Lib.hid h
  have HC := Lib.hid (fun (h0' : Own.Heap) (is' : Sess.Is (Sess.over s 13) bb h0') W (hW : Own.Has W (({ l with hs := h1 ++ (h0' ++ h2) } : Lay).heap (g.setS i (Sess.over s 13)))) =>
    charge_any (k.setS i (Sess.over s 13) _ (a4 _ h0' is')) hW i (Sess.over s 13) (by show (g.slots.set i (some (Sess.over s 13)))[i]? = _; rw [List.getElem?_set_self (by rw [k.len]; exact hil)]) ho2 (Nat.le_trans (Se.charge_le _ hsm) (by omega)) (by omega))
  have HK := Lib.hid (o.setS i s (Sess.over s 13) hs hsm)
  have HA := Lib.hid (And.intro a2 hil)
  clear k h ho2 hsm hv a2 a3 a4 a5 hf hs o hil hend hout
  go_enter Try.func14, Try.ntmps14
  go_wp2_with (fail)
  refine HO.out.mono ?_
  rintro e W1 ⟨rfl, rfl⟩
  simp only [ofOut, HV.out]
  go_wp2_with (fail)
  refine HF.out.mono ?_
  rintro e W2 ⟨rfl, h0', is', ht⟩
  have t1 : Own.Turn (l.heap g) (({ l with hs := h1 ++ (h0' ++ h2) } : Lay).heap (g.setS i (Sess.over s 13))) _ W2 :=
    Own.Turn.focus HH.out (perm_sess l g h1 h0 h2 HA.out.1) (fun _ => ht) (perm_sess _ _ h1 h0' h2 rfl)
  go_wp2_with (fail)
  refine (HC.out h0' is' W2 t1.has).mono ?_
  rintro e W3 ⟨⟨v3, rfl⟩, k3, t3⟩
  have T3 := Lib.hid (t1.trans t3)
  have K3 := Lib.hid k3
  clear t1 t3 k3 ht is' HC HF
  go_wp2
  go_ret
  exact ⟨rfl, _, _, K3.out, HK.out, rfl, ⟨rfl, rfl, rfl, rfl, rfl⟩, rfl, T3.out⟩
end
end Gate
end Go.Proofs.Ytpeimoknmlmppaa
