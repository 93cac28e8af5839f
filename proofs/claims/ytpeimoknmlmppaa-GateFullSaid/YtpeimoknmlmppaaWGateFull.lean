/- GateFull: the walk: no more sessions are live than may be. -/
import Derived.Test.YtpeimoknmlmppaaGateP
import Derived.Test.YtpeimoknmlmppaaInt
namespace Go.Proofs.Ytpeimoknmlmppaa.gateFull
open Go.RowKit Gate
open Purse (ints)

/-- A gateway of m places in whose first i slots sessions began. -/
structure To (g : Ga) (m i : Nat) : Prop where
  n : g.n = m
  slots : g.slots = List.replicate i (some Se.new) ++ List.replicate (m - i) none
  ids : ∀ j, j < i → g.ids[j]? = some (j + m * j)
  many : g.many = i
  turns : g.turns.length = i
  rest : g.pu.rest = 40000 - m * 700

theorem to_new (m : Nat) : To (Ga.new 40000 m) m 0 := ⟨rfl, by simp [Ga.new], by intro j hj; omega, rfl, rfl, rfl⟩

theorem To.at_ {g : Ga} {m i : Nat} (t : To g m i) (h : i < m) : g.slots[i]? = some none := by
  rw [t.slots, List.getElem?_append_right (by simp), List.length_replicate, Nat.sub_self, List.getElem?_replicate, if_pos (by omega)]

theorem To.before {g : Ga} {m i : Nat} (t : To g m i) (j : Nat) (h : j < i) : g.slots[j]? ≠ some none := by
  rw [t.slots, List.getElem?_append_left (by simpa using h), List.getElem?_replicate, if_pos h]
  simp

theorem To.next {g : Ga} {m i : Nat} (t : To g m i) (h : i < m) (hl : g.ids.length = m) (c : Nat) : To (g.begin_ i c) m (i + 1) where
  n := t.n
  slots := by
    show g.slots.set i (some Se.new) = _
    rw [t.slots, List.set_append_right _ _ (by simp), List.length_replicate, Nat.sub_self, show m - i = (m - (i + 1)) + 1 by omega, List.replicate_succ, List.set_cons_zero, List.replicate_succ', List.append_assoc]
    rfl
  ids := by
    intro j hj
    show (g.ids.set i (i + g.n * g.many))[j]? = _
    rw [t.n, t.many]
    by_cases hij : i = j
    · subst hij; rw [List.getElem?_set_self (by omega)]
    · rw [List.getElem?_set_ne hij]; exact t.ids j (by omega)
  many := by show g.many + 1 = _; rw [t.many]
  turns := by show (g.turns ++ [i]).length = _; rw [List.length_append, t.turns]; rfl
  rest := t.rest

theorem To.full {g : Ga} {m : Nat} (t : To g m m) : g.slots = List.replicate m (some Se.new) := by
  rw [t.slots]; simp

set_option maxRecDepth 100000 in
set_option maxHeartbeats 4000000 in
theorem walk (a0 : Int) (a1 : Int) (a2 : Int) (_w0 : (Lit.int .i64 a0).wf = true) (_w1 : (Lit.int .i64 a1).wf = true) (_w2 : (Lit.int .i64 a2).wf = true) (w : World) :
    Calls Try.prog 4 #[.int .i64 a0, .int .i64 a1, .int .i64 a2] w fun e w' => e = .returned (.bool true) ∧ Below w.heap.size w w' := by
  have HA := Lib.hid (fun W => alive_any W)
  clear _w0 _w1 _w2
  rcases (show a0 < 1 ∨ 8 < a0 ∨ (1 ≤ a0 ∧ a0 ≤ 8 ∧ a1 < 0) ∨ (1 ≤ a0 ∧ a0 ≤ 8 ∧ 10 < a1) ∨ (1 ≤ a0 ∧ a0 ≤ 8 ∧ 0 ≤ a1 ∧ a1 ≤ 10) by omega) with h1 | h1 | ⟨h1, h2, h3⟩ | ⟨h1, h2, h3⟩ | ⟨h1, h2, h3, h4⟩
  case inr.inr.inr.inr =>
    obtain ⟨n, rfl⟩ : ∃ n : Nat, a0 = (n : Int) := ⟨a0.toNat, by omega⟩
    obtain ⟨more, rfl⟩ : ∃ n : Nat, a1 = (n : Int) := ⟨a1.toNat, by omega⟩
    have HN := Lib.hid (fun W => new_any 40000 n (by omega) (by omega) (by omega) (by omega) W)
    have O0 := Lib.hid (Ga.Ok.new 40000 n (by omega))
    have hp : 0 < n := by omega
    have h8 : n ≤ 8 := by omega
    go_enter Try.func4, Try.ntmps4
    go_wp2_with (fail)
    refine (HA.out _).mono ?_
    rintro e W1 ⟨rfl, b1⟩
    have B1 := Lib.hid b1
    clear b1
    go_wp2_with (fail)
    refine (HN.out _).mono ?_
    rintro e W2 ⟨l0, rfl, k0, t0⟩
    have Z0 := Lib.hid (And.intro k0 t0)
    clear k0 t0 HN
    go_wp2
    go_loopw [8] (fun x wr => ∃ (i : Nat) (l : Lay) (g : Ga), x = .int .i64 i ∧ i ≤ n ∧ l.Good g ∧ g.Ok ∧ To g n i ∧ l.gb = l0.gb ∧ Own.Turn [] (l.heap g) W1 wr) (fun x _ => n - (intOf x).toNat)
    case atStart => exact ⟨0, l0, _, rfl, by omega, Z0.out.1, O0.out, to_new n, rfl, Z0.out.2⟩
    case round =>
      obtain ⟨i, l, g, rfl, hi, k, o, t, hg, T⟩ := hrel
      by_cases hin : i < n
      · have hinI : (i : Int) < (n : Int) := by omega
        have HC := connect_any k o T.has i (t.at_ hin) t.before (by rw [t.many]; omega) (by rw [t.turns]; omega)
        rw [t.n, t.many, hg] at HC
        have HC := Lib.hid HC
        have K := Lib.hid (And.intro k (And.intro o (And.intro t T)))
        obtain ⟨M, hM⟩ : ∃ M, M = n * i := ⟨_, rfl⟩
        have hM8 : M ≤ 64 := by rw [hM]; exact Nat.mul_le_mul h8 (show i ≤ 8 by omega)
        have hMI : (n : Int) * (i : Int) = (M : Int) := by rw [hM, Int.natCast_mul]
        rw [← hM] at HC
        clear k o t T hM
        go_wp2_with (fail)
        refine HC.out.mono ?_
        rintro e W3 ⟨rfl, l', c, k', o', hg', T'⟩
        have K' := Lib.hid (And.intro k' (And.intro o' T'))
        clear k' o' T'
        go_wp2
        go_roundw
        case rel => exact ⟨i + 1, l', _, by go_num, by omega, K'.out.1, K'.out.2.1, K.out.2.2.1.next hin (by rw [K.out.1.ids, K.out.2.2.1.n]) c, hg', K.out.2.2.2.trans K'.out.2.2⟩
        case measure => simp [intOf]; omega
      · have hin2 : i = n := by omega
        subst hin2
        have hinI : (i : Int) ≤ (i : Int) := Int.le_refl _
        have hlive : g.live.length = i := by
          rw [live_len g k.len, t.full, List.countP_replicate]
          exact if_pos rfl
        have HT := total_any k T.has
        rw [hg] at HT
        have HT := Lib.hid HT
        have FF := Lib.hid (fun W (hW : Own.Has W (l.heap g)) => full_connect k hW (by
          intro j
          rw [t.full, List.getElem?_replicate]
          split <;> simp))
        have TL := Lib.hid (fun W (hW : Own.Has W (l.heap g)) => total_any k hW)
        have LL := Lib.hid (fun W (hW : Own.Has W (l.heap g)) => live_any k hW)
        rw [hlive, hg] at LL
        rw [hg] at FF TL
        have hsum : g.pu.has.sum = i * 2 := by
          rw [o.has, t.full, List.map_replicate]
          show (List.replicate i 2).sum = _
          rw [List.sum_replicate_nat]
        obtain ⟨T0, hT0⟩ : ∃ T0, g.pu.has.sum = T0 + 2 := ⟨i * 2 - 2, by omega⟩
        have hT16 : T0 ≤ 16 := by omega
        rw [hT0] at HT TL
        clear hsum
        have K := Lib.hid (And.intro k (And.intro o (And.intro t (And.intro T (And.intro hT0 hg)))))
        clear k o t T hT0 hlive hg Z0 O0
        go_wp2_with (fail)
        refine HT.out.mono ?_
        rintro e W3 ⟨rfl, rfl⟩
        go_wp2
        go_loopw [12] (fun x wr => ∃ (j : Nat), x = .int .i64 j ∧ j ≤ more ∧ Own.Turn (l.heap g) (l.heap g) W3 wr) (fun x _ => more - (intOf x).toNat)
        case atStart => exact ⟨0, rfl, by omega, Own.Turn.refl K.out.2.2.2.1.has⟩
        case round =>
          obtain ⟨j, rfl, hj, tj⟩ := hrel
          have TJ := Lib.hid tj
          clear tj
          by_cases hjm : j < more
          · have hjI : (j : Int) < (more : Int) := by omega
            go_wp2_with (fail)
            refine (FF.out _ TJ.out.has).mono ?_
            rintro e W4 ⟨rfl, rfl⟩
            go_wp2_with (fail)
            refine (TL.out _ TJ.out.has).mono ?_
            rintro e W4 ⟨rfl, rfl⟩
            go_wp2_with (fail)
            refine (LL.out _ TJ.out.has).mono ?_
            rintro e W5 ⟨ad, c, ho, rfl, hs, t5⟩
            have T5 := Lib.hid (TJ.out.trans t5.forget)
            clear hs t5
            go_wp2
            go_roundw
            case rel => exact ⟨j + 1, by go_num, by omega, T5.out⟩
            case measure => simp [intOf]; omega
          · have hjI : (more : Int) ≤ (j : Int) := by omega
            obtain ⟨kk, hkk, hsl⟩ := Int64.slot a2 i hp (by omega)
            obtain ⟨Mk, hMk⟩ : ∃ Mk, Mk = i * kk := ⟨_, rfl⟩
            have hMk8 : Mk ≤ 64 := by rw [hMk]; exact Nat.mul_le_mul h8 (show kk ≤ 8 by omega)
            have hMkI : (i : Int) * (kk : Int) = (Mk : Int) := by rw [hMk, Int.natCast_mul]
            obtain ⟨Mi, hMi⟩ : ∃ Mi, Mi = i * i := ⟨_, rfl⟩
            have hMi8 : Mi ≤ 64 := by rw [hMi]; exact Nat.mul_le_mul h8 h8
            have hMiI : (i : Int) * (i : Int) = (Mi : Int) := by rw [hMi, Int.natCast_mul]
            have hkk8 : kk ≤ 8 := by omega
            have hid : ((kk + i * kk : Nat) : Int) = (kk : Int) + (Mk : Int) := by rw [Int.natCast_add, Int.natCast_mul, hMkI]
            have hn := K.out.2.2.1.n
            have hlen : g.slots.length = i := by rw [K.out.1.len, hn]
            have hgk : g.slots[kk]? = some (some Se.new) := by rw [K.out.2.2.1.full, List.getElem?_replicate, if_pos hkk]
            have hik := K.out.2.2.1.ids kk hkk
            have hf1 : g.find ((kk : Int) + (Mk : Int)) = some kk := by rw [← hid]; exact find_at g kk _ (by rw [hn]; exact slot_of kk i hkk kk) Se.new hgk hik
            have HCan := cancel_any K.out.1 K.out.2.1 TJ.out.has _ kk hf1 Se.new hgk rfl (by decide)
            rw [K.out.2.2.2.2.2] at HCan
            have HCan := Lib.hid HCan
            have HK := Lib.hid (And.intro hid (And.intro hn (And.intro hlen (And.intro hik (And.intro hMi hkk)))))
            clear hid hn hlen hgk hik hf1 hMi hMk
            go_wp2_with (fail)
            refine HCan.out.mono ?_
            rintro e W4 ⟨rfl, l2, g2, k2, o2, h2', like2, e2, t2⟩
            have hlk : kk < g.slots.length := by rw [HK.out.2.2.1]; exact HK.out.2.2.2.2.2
            have h2k : g2.slots[kk]? = some (some (Sess.over Se.new 13)) := by rw [h2', List.getElem?_set_self hlk]
            have hf2 : g2.find ((kk : Int) + (Mk : Int)) = some kk := by
              rw [← HK.out.1]
              exact find_at g2 kk _ (by rw [like2.n, HK.out.2.1]; exact slot_of kk i HK.out.2.2.2.2.2 kk) _ h2k (by rw [like2.ids]; exact HK.out.2.2.2.1)
            have T2 := TJ.out.trans t2
            have HWr := write_any k2 o2 T2.has _ 100 (by omega) kk hf2 _ h2k rfl (by simp [Sess.over]) (by decide)
            rw [e2, show (⟨(Sess.over Se.new 13).out.toArray⟩ : ByteArray) = ⟨#[78, 13]⟩ from rfl] at HWr
            have HWr := Lib.hid HWr
            have H2 := Lib.hid (And.intro h2' (And.intro like2 T2))
            clear k2 o2 h2' like2 e2 t2 h2k hf2 T2 HCan
            go_wp2_with (fail)
            refine HWr.out.mono ?_
            rintro e W5 ⟨rfl, l3, g3, k3, o3, s3, n3, i3, m3, r3, u3, e3, t3⟩
            have T3 := H2.out.2.2.trans t3
            have hs3 : g3.slots = g.slots.set kk none := by rw [s3, H2.out.1, List.set_set]
            have hn3 : g3.n = i := by rw [n3, H2.out.2.1.n, HK.out.2.1]
            have h3k : g3.slots[kk]? = some none := by rw [hs3, List.getElem?_set_self hlk]
            have hlive3 : g3.live.length = i - 1 := by
              rw [live_len g3 k3.len, hs3]
              have h9 := count_set g.slots kk hlk none
              have h10 : g.slots[kk]'hlk = some Se.new := by
                have h11 : g.slots[kk]? = some (some Se.new) := by rw [K.out.2.2.1.full, List.getElem?_replicate, if_pos HK.out.2.2.2.2.2]
                rw [List.getElem?_eq_getElem hlk] at h11
                exact Option.some.inj h11
              rw [h10, K.out.2.2.1.full, List.countP_replicate] at h9
              rw [K.out.2.2.1.full]
              simp at h9
              omega
            have hsum3 : g3.pu.has.sum = T0 := by
              rw [o3.has, hs3]
              have h9 := sum_charges_set g.slots kk hlk none
              have h10 : g.slots[kk]'hlk = some Se.new := by
                have h11 : g.slots[kk]? = some (some Se.new) := by rw [K.out.2.2.1.full, List.getElem?_replicate, if_pos HK.out.2.2.2.2.2]
                rw [List.getElem?_eq_getElem hlk] at h11
                exact Option.some.inj h11
              have h12 := K.out.2.2.2.2.1
              rw [K.out.2.1.has] at h12
              rw [h10, show chargeO (some Se.new) = 2 from rfl, show chargeO none = 0 from rfl] at h9
              omega
            have hf3 : g3.find ((kk : Int) + (Mk : Int)) = none := by
              rw [← HK.out.1]
              exact find_free g3 kk _ (by rw [hn3]; exact slot_of kk i HK.out.2.2.2.2.2 kk) h3k
            have HL3 := Lib.hid (fun W (hW : Own.Has W (l3.heap g3)) => live_any k3 hW)
            have HT3 := Lib.hid (fun W (hW : Own.Has W (l3.heap g3)) => total_any k3 hW)
            have HC3 := Lib.hid (fun W (hW : Own.Has W (l3.heap g3)) => chargeOf_any k3 o3 hW ((kk : Int) + (Mk : Int)))
            have HX3 := Lib.hid (fun W (hW : Own.Has W (l3.heap g3)) => cancel_none k3 o3 hW _ hf3)
            have HN3 := Lib.hid (fun W (hW : Own.Has W (l3.heap g3)) => connect_any k3 o3 hW kk h3k (by
              intro j hj
              rw [hs3, List.getElem?_set_ne (by omega), K.out.2.2.1.full, List.getElem?_replicate]
              split <;> simp) (by rw [m3, H2.out.2.1.many, K.out.2.2.1.many]; omega) (by
              rw [u3]
              have h9 := List.length_erase_le (a := kk) (l := g2.turns)
              rw [H2.out.2.1.turns, K.out.2.2.1.turns] at h9
              rw [H2.out.2.1.turns]
              omega))
            rw [hlive3, e3] at HL3
            rw [hsum3, e3] at HT3
            rw [hf3, e3, show g3.told none = 0 from rfl] at HC3
            rw [e3] at HX3 HN3
            rw [hn3, m3, H2.out.2.1.many, K.out.2.2.1.many, ← HK.out.2.2.2.2.1] at HN3
            have TT3 := Lib.hid T3
            have S3 := Lib.hid (And.intro hs3 (And.intro hn3 e3))
            have hi1 : ((i - 1 : Nat) : Int) = (i : Int) - 1 := by omega
            clear k3 o3 s3 n3 i3 m3 r3 u3 e3 t3 T3 hs3 hn3 h3k hlive3 hsum3 hf3 HWr
            go_wp2_with (fail)
            refine (HL3.out _ TT3.out.has).mono ?_
            rintro e W6 ⟨ad6, c6, ho6, rfl, hs6, t6⟩
            have T6 := Lib.hid (TT3.out.trans t6.forget)
            clear hs6 t6 HL3
            go_wp2_with (fail)
            refine (HT3.out _ T6.out.has).mono ?_
            rintro e W7 ⟨rfl, rfl⟩
            go_wp2_with (fail)
            refine (HC3.out _ T6.out.has).mono ?_
            rintro e W7 ⟨rfl, rfl⟩
            go_wp2_with (fail)
            refine (HX3.out _ T6.out.has).mono ?_
            rintro e W7 ⟨rfl, rfl⟩
            go_wp2_with (fail)
            refine (HN3.out _ T6.out.has).mono ?_
            rintro e W8 ⟨rfl, l4, c4, k4, o4, e4, t4⟩
            have T8 := T6.out.trans t4
            have hs4 : (g3.begin_ kk c4).slots = List.replicate i (some Se.new) := by
              show g3.slots.set kk (some Se.new) = _
              rw [S3.out.1, List.set_set, K.out.2.2.1.full]
              apply List.ext_getElem?
              intro j'
              by_cases hjk : kk = j'
              · subst hjk
                rw [List.getElem?_set_self (by rw [List.length_replicate]; exact HK.out.2.2.2.2.2), List.getElem?_replicate, if_pos HK.out.2.2.2.2.2]
              · rw [List.getElem?_set_ne hjk]
            have hlive4 : (g3.begin_ kk c4).live.length = i := by
              rw [live_len _ k4.len, hs4, List.countP_replicate]
              exact if_pos rfl
            have hsum4 : (g3.begin_ kk c4).pu.has.sum = T0 + 2 := by
              rw [← K.out.2.2.2.2.1, o4.has, K.out.2.1.has, hs4, K.out.2.2.1.full]
            have HL4 := Lib.hid (live_any k4 T8.has)
            have HT4 := Lib.hid (fun W (hW : Own.Has W (l4.heap (g3.begin_ kk c4))) => total_any k4 hW)
            rw [hlive4, e4] at HL4
            rw [hsum4, e4] at HT4
            have TT8 := Lib.hid T8
            clear k4 o4 e4 t4 T8 hs4 hlive4 hsum4 HN3 HX3 HC3 HT3
            go_wp2_with (fail)
            refine HL4.out.mono ?_
            rintro e W9 ⟨ad9, c9, ho9, rfl, hs9, t9⟩
            have T9 := Lib.hid (TT8.out.trans t9.forget)
            clear hs9 t9 HL4
            go_wp2_with (fail)
            refine (HT4.out _ T9.out.has).mono ?_
            rintro e W10 ⟨rfl, rfl⟩
            have HB := Lib.hid (B1.out.trans ((of_turn (K.out.2.2.2.1.trans T9.out)).mono B1.out.size))
            go_wp2
            go_ret
            exact ⟨rfl, HB.out⟩
  all_goals
    go_enter Try.func4, Try.ntmps4
    go_wp2_with (fail)
    refine (HA.out _).mono ?_
    rintro e W1 ⟨rfl, b1⟩
    have B1 := Lib.hid b1
    clear b1
    go_wp2
    go_ret
    exact ⟨rfl, B1.out⟩
end Go.Proofs.Ytpeimoknmlmppaa.gateFull
