/- GateCredits: the walk: of a chunk as much is taken as there is room for. -/
import Derived.Test.YtpeimoknmlmppaaGateV
namespace Go.Proofs.Ytpeimoknmlmppaa.gateCredits
open Go.RowKit Gate
open Purse (ints)

/-- A gateway with one session that began. -/
structure One (g : Ga) (s : Se) : Prop where
  slots : g.slots = [some s]
  ids : g.ids = [0]
  n : g.n = 1
  rest : g.pu.rest = 39300

theorem One.find {g : Ga} {s : Se} (o : One g s) : g.find 0 = some 0 := by
  unfold Ga.find
  rw [o.slots, o.ids, o.n]
  rfl

theorem One.told {g : Ga} {s : Se} (o : One g s) (k : g.Ok) : g.told (g.find 0) = s.charge := by
  rw [o.find]
  show g.pu.has.getD 0 0 = _
  rw [List.getD_eq_getElem?_getD, k.has_at 0 s (by rw [o.slots]; rfl)]
  rfl

theorem One.sum {g : Ga} {s : Se} (o : One g s) (k : g.Ok) : g.pu.has.sum = s.charge := by
  rw [k.has, o.slots]
  simp [chargeO]

theorem One.next {g g' : Ga} {s s' : Se} (o : One g s) (h : g'.slots = g.slots.set 0 (some s')) (k : g.Like g') : One g' s' :=
  ⟨by rw [h, o.slots]; rfl, k.ids.trans o.ids, k.n.trans o.n, k.rest.trans o.rest⟩

theorem takes_new (b : List UInt8) (s : Se) (hh : s.half = false) (he : s.ended = false) (room : Nat) (hr : 64 ≤ room) : s.takes b room = min b.length (64 - s.inb.length) := by
  unfold Se.takes
  rw [hh, he]
  show min (min b.length room) (64 - s.inb.length) = _
  omega

theorem feed_charge (s : Se) (b : List UInt8) (room : Nat) : (s.feed b room).charge = s.charge + min (s.takes b room) b.length := by
  unfold Se.charge
  show (s.inb ++ b.take (s.takes b room)).length + s.out.length + (if s.ended then 0 else 2) = _
  rw [List.length_append, List.length_take]
  omega

theorem feed_inb (s : Se) (b : List UInt8) (room : Nat) : (s.feed b room).inb.length = s.inb.length + min (s.takes b room) b.length := by
  show (s.inb ++ b.take (s.takes b room)).length = _
  rw [List.length_append, List.length_take]

def X : ByteArray := ⟨#[120]⟩

theorem zeros (n : Nat) (w : World) : (convert 27 9 (.slice (some ⟨w.heap.size, 0, none⟩) n n)).run Try.prog (w.alloc (.cells (madeCells #[.int .u8 0] n) 5)) =
    .ok (.string ⟨(List.replicate n (0 : UInt8)).toArray⟩) (w.alloc (.cells (madeCells #[.int .u8 0] n) 5)) := by
  refine Eq.trans (congrArg (fun k => (convert 27 9 (.slice (some ⟨w.heap.size, 0, none⟩) k n)).run Try.prog (w.alloc (.cells (madeCells #[.int .u8 0] n) 5))) (List.length_replicate (n := n) (a := (0 : UInt8))).symm) ?_
  refine run_convert_bytes_back _ _ _ 5 ⟨w.heap.size, 0, none⟩ n (List.replicate n 0) Try.underlying27 Try.underlying5 Try.underlying9 fun j hj => ?_
  have hj' : j < n := by simpa using hj
  rw [Own.made_list, Addr.add_lit]
  simp [hj']

set_option maxRecDepth 100000 in
set_option maxHeartbeats 4000000 in
theorem walk (a0 : Int) (_w0 : (Lit.int .i64 a0).wf = true) (w : World) : Calls Try.prog 3 #[.int .i64 a0] w fun e w' => e = .returned (.bool true) ∧ Below w.heap.size w w' := by
  have HA := Lib.hid (fun W => alive_any W)
  rcases (show a0 < 0 ∨ 200 < a0 ∨ (0 ≤ a0 ∧ a0 ≤ 200) by omega) with h1 | h1 | ⟨h1, h2⟩
  · go_enter Try.func3, Try.ntmps3
    go_wp2_with (fail)
    refine (HA.out _).mono ?_
    rintro e W1 ⟨rfl, b1⟩
    have B1 := Lib.hid b1
    clear b1
    go_wp2
    go_ret
    exact ⟨rfl, B1.out⟩
  · go_enter Try.func3, Try.ntmps3
    go_wp2_with (fail)
    refine (HA.out _).mono ?_
    rintro e W1 ⟨rfl, b1⟩
    have B1 := Lib.hid b1
    clear b1
    go_wp2
    go_ret
    exact ⟨rfl, B1.out⟩
  · obtain ⟨n, rfl⟩ : ∃ n : Nat, a0 = (n : Int) := ⟨a0.toNat, by omega⟩
    have hmk := run_make_row' (P := Try.prog) 27 5 (.int .u8 0) 1 Try.underlying27 (by kernel_rfl) rfl .i64 .i64 n (by omega) (by omega)
    have hz := fun W => zeros n W
    obtain ⟨S, hS⟩ : ∃ S : ByteArray, S = ⟨(List.replicate n (0 : UInt8)).toArray⟩ := ⟨_, rfl⟩
    rw [← hS] at hz
    have hSl : S.data.toList.length = n := by rw [hS]; simp
    have HN := Lib.hid (fun W => new_any 40000 1 (by omega) (by omega) (by omega) (by omega) W)
    have O0 := Lib.hid (Ga.Ok.new 40000 1 (by omega))
    obtain ⟨m, hm⟩ : ∃ m, m = min n 64 := ⟨_, rfl⟩
    have HS := Lib.hid (And.intro hSl hm)
    have hn2 : n ≤ 200 := by omega
    clear hS hSl _w0 h1 h2 hm
    go_enter Try.func3, Try.ntmps3
    go_wp2_with (fail)
    refine (HA.out _).mono ?_
    rintro e W1 ⟨rfl, b1⟩
    have B1 := Lib.hid b1
    clear b1
    go_wp2_with (fail)
    refine (HN.out _).mono ?_
    rintro e W2 ⟨l0, rfl, k0, t0⟩
    have HC1 := Lib.hid (connect_any k0 O0.out t0.has 0 rfl (fun j hj => by omega) (Nat.zero_le _) (Nat.zero_le _))
    rw [show (0 + (Ga.new 40000 1).n * (Ga.new 40000 1).many : Nat) = 0 from rfl] at HC1
    have T0 := Lib.hid t0
    clear k0 t0 HN O0
    go_wp2_with (fail)
    refine HC1.out.mono ?_
    rintro e W3 ⟨rfl, l1, c1, k1, o1, e1, t1⟩
    have P1 : One ((Ga.new 40000 1).begin_ 0 c1) Se.new := ⟨rfl, rfl, rfl, rfl⟩
    generalize (Ga.new 40000 1).begin_ 0 c1 = g1 at *
    have TA := Lib.hid (T0.out.trans t1)
    have K1 := Lib.hid (And.intro k1 (And.intro o1 (And.intro P1 e1)))
    clear HC1 T0 k1 o1 t1 P1 e1
    have HK2 := Lib.hid (fun W (hW : Own.Has W (l1.heap g1)) => chunk_any K1.out.1 K1.out.2.1 hW 0 (by omega) S (by have : S.data.toList.length = S.size := Array.length_toList; have := HS.out.1; omega) 0 K1.out.2.2.1.find Se.new (by rw [K1.out.2.2.1.slots]; rfl))
    have hT1 : Se.new.takes S.data.toList (700 - Se.new.charge + g1.pu.rest) = m := by
      rw [takes_new _ _ rfl rfl _ (by rw [K1.out.2.2.1.rest]; omega), HS.out.1]
      exact HS.out.2.symm
    rw [hT1, K1.out.2.2.2] at HK2
    have HT1 := Lib.hid hT1
    clear hT1
    go_wp2_with (fail)
    all_goals
      first
      | (have em : n = m := (by have := HS.out.2; omega); subst em)
      | (have em : 64 = m := (by have := HS.out.2; omega); subst em)
      have TB := Lib.hid (TA.out.litter (.cells (madeCells #[.int .u8 0] n) 5))
      refine (HK2.out _ TB.out.has).mono ?_
      rintro e W4 ⟨rfl, l2, g2, k2, o2, h2, like2, e2, t2⟩
      have P2 := K1.out.2.2.1.next h2 like2
      generalize hs1 : Se.new.feed S.data.toList (700 - Se.new.charge + g1.pu.rest) = s1 at P2
      have q1 := feed_charge Se.new S.data.toList (700 - Se.new.charge + g1.pu.rest)
      have q2 := feed_inb Se.new S.data.toList (700 - Se.new.charge + g1.pu.rest)
      rw [hs1, HT1.out, HS.out.1] at q1 q2
      have T2 := TB.out.trans t2
      have HCh := Lib.hid (chargeOf_any k2 o2 T2.has 0 (by omega))
      rw [P2.told o2, e2] at HCh
      have HK3 := Lib.hid (chunk_any k2 o2 T2.has 0 (by omega) X (by decide) 0 P2.find s1 (by rw [P2.slots]; rfl))
      have hh1 : s1.half = false := hs1 ▸ rfl
      have he1 : s1.ended = false := hs1 ▸ rfl
      obtain ⟨t, ht⟩ : ∃ t, t = s1.takes X.data.toList (700 - s1.charge + g2.pu.rest) := ⟨_, rfl⟩
      have ht2 := ht
      rw [takes_new _ _ hh1 he1 _ (by rw [P2.rest]; omega), q2] at ht2
      rw [← ht, e2] at HK3
      have n1 : Se.new.charge = 2 := rfl
      have n2 : Se.new.inb.length = 0 := rfl
      have n3 : X.data.toList.length = 1 := rfl
      rw [n2, n3] at ht2
      rw [n1] at q1
      have QQ := Lib.hid (And.intro q1 (And.intro ht2 (And.intro P2 ht)))
      first
      | (have q3 : s1.charge = n + 2 := (by omega); rw [q3] at HCh)
      | (have q3 : s1.charge = 66 := (by omega); rw [q3] at HCh)
      have TT2 := Lib.hid T2
      clear k2 o2 h2 like2 e2 t2 P2 hs1 q1 q2 T2 hh1 he1 n1 n2 n3 q3 HK2 HT1 ht
      go_wp2_with (fail)
      refine HCh.out.mono ?_
      rintro e W5 ⟨rfl, rfl⟩
      go_wp2_with (fail)
      refine (HK3.out).mono ?_
      rintro e W6 ⟨rfl, l3, g3, k3, o3, h3, like3, e3, t3⟩
      have P3 := QQ.out.2.2.1.next h3 like3
      have p1 := feed_charge s1 X.data.toList (700 - s1.charge + g2.pu.rest)
      have T3 := TT2.out.trans t3
      have HTo := Lib.hid (total_any k3 T3.has)
      have HCc := Lib.hid (chargeOf_any k3 o3 T3.has 0 (by omega))
      rw [P3.told o3, e3] at HCc
      rw [P3.sum o3, e3] at HTo
      obtain ⟨c, hc⟩ : ∃ c, c = (s1.feed X.data.toList (700 - s1.charge + g2.pu.rest)).charge := ⟨_, rfl⟩
      rw [← hc] at HTo HCc p1
      rw [← QQ.out.2.2.2, QQ.out.1, show X.data.toList.length = 1 from rfl] at p1
      have ht3 := QQ.out.2.1
      have hc66 : c ≤ 66 := by omega
      have HB := Lib.hid (B1.out.trans ((of_turn T3).mono B1.out.size))
      have HT3 := Lib.hid (And.intro p1 ht3)
      clear k3 o3 h3 like3 e3 t3 P3 p1 T3 hc HK3 HCh
      have HE := Lib.hid (show ((c : Int) == (c : Int)) = true by simp)
      have hcI : (c : Int) ≤ 66 := by omega
      go_wp2_with (fail)
      all_goals
        refine HTo.out.mono ?_
        rintro e W7 ⟨rfl, rfl⟩
        go_wp2_with (fail)
        refine HCc.out.mono ?_
        rintro e W8 ⟨rfl, rfl⟩
        go_wp2_with (fail)
        refine HTo.out.mono ?_
        rintro e W9 ⟨rfl, rfl⟩
        go_wp2
        go_ret
        first
        | exact ⟨rfl, HB.out⟩
        | trace_state
end Go.Proofs.Ytpeimoknmlmppaa.gateCredits
