/- GateIds: the walk: no id comes twice. -/
import Derived.Test.YtpeimoknmlmppaaGateI
import Derived.Test.YtpeimoknmlmppaaInt
import Derived.Carry
namespace Go.Proofs.Ytpeimoknmlmppaa.gateIds
open Go.RowKit Gate
open Purse (ints)

def IsRow (k : IntKind) (w : World) (a : Option Addr) (len cap : Nat) (zs : List Int) : Prop :=
  (a = none ∧ len = 0 ∧ cap = 0 ∧ zs = []) ∨
  ∃ x, a = some x ∧ len ≤ cap ∧ cap ≤ maxLen ∧ zs.length = cap ∧ (∀ i, i < zs.length → w.cell? (x.add i) = some (.int k (zs.getD i 0))) ∧ ∀ n ∈ zs, (Lit.int k n).wf = true

theorem lt_of_cell {w : World} {x : Addr} {v : Value} (h : w.cell? x = some v) : x.block < w.heap.size := by
  unfold World.cell? at h
  cases hb : w.heap[x.block]? with
  | none => rw [hb] at h; simp at h
  | some o => exact (Array.getElem?_eq_some_iff.1 hb).1

set_option maxRecDepth 100000 in
set_option maxHeartbeats 8000000 in
theorem walk (a0 : Int) (a1 : Option Addr) (len1 cap1 : Nat) (z1 : List Int) (w : World) (_w0 : (Lit.int .i64 a0).wf = true) (w1 : IsRow .i64 w a1 len1 cap1 z1) :
    Calls Try.prog 5 #[.int .i64 a0, .slice a1 len1 cap1] w fun e w' => e = .returned (.bool true) ∧ Below w.heap.size w w' := by
  have HA := Lib.hid (fun W => alive_any W)
  have hrow : ∀ k, k < len1 → ∃ x, a1 = some x ∧ w.cell? (x.add k) = some (.int .i64 (z1.getD k 0)) := by
    intro k hk
    rcases w1 with ⟨_, rfl, _, _⟩ | ⟨x, rfl, h1, h2, h3, h4, h5⟩
    · omega
    · exact ⟨x, rfl, h4 k (by omega)⟩
  have HR := Lib.hid hrow
  clear _w0 w1 hrow
  rcases (show a0 < 1 ∨ 8 < a0 ∨ (1 ≤ a0 ∧ a0 ≤ 8 ∧ 80 < len1) ∨ (1 ≤ a0 ∧ a0 ≤ 8 ∧ len1 ≤ 80) by omega) with h1 | h1 | ⟨h1, h2, h3⟩ | ⟨h1, h2, h3⟩
  case inr.inr.inr =>
    obtain ⟨n, rfl⟩ : ∃ n : Nat, a0 = (n : Int) := ⟨a0.toNat, by omega⟩
    have h3I : (len1 : Int) ≤ 80 := by omega
    have HN := Lib.hid (fun W => new_any 40000 n (by omega) (by omega) (by omega) (by omega) W)
    have O0 := Lib.hid (Ga.Ok.new 40000 n (by omega))
    have hp : 0 < n := by omega
    have h8 : n ≤ 8 := by omega
    have hmm := @run_makeMap Try.prog
    go_enter Try.func5, Try.ntmps5
    go_wp2_with (fail)
    refine (HA.out _).mono ?_
    rintro e W1 ⟨rfl, b1⟩
    have B1 := Lib.hid b1
    clear b1
    go_wp2_with (fail)
    refine (HN.out _).mono ?_
    rintro e W2 ⟨l0, rfl, k0, t0⟩
    have Z0 := Lib.hid (And.intro k0 (t0.allocAt W2.heap.size rfl (.map #[] 0)))
    clear k0 t0 HN
    go_wp2
    go_loopw [7, 37] (fun tm x wr => ∃ (i m : Nat) (l : Lay) (g : Ga) (o : Obj), x = .int .i64 i ∧ tm = .int .i64 m ∧ i ≤ len1 ∧ m ≤ i ∧ l.Good g ∧ g.Ok ∧ Inv g n m ∧ Ever o m n m ∧ l.gb = l0.gb ∧ Own.Turn [] ((W2.heap.size, o) :: l.heap g) W1 wr) (fun _ x _ => len1 - (intOf x).toNat)
    case atStart => exact ⟨0, 0, l0, _, _, rfl, rfl, by omega, by omega, Z0.out.1, O0.out, Inv.new n, ever_new W2 n, rfl, Z0.out.2⟩
    case round =>
      obtain ⟨i, m, l, g, o, rfl, rfl, hi, hmi, k, ok, v, ev, hg, T⟩ := hrel
      have hR : Own.Has wr (l.heap g) := Own.Has.right (a := [_]) T.has
      have hLL := live_any k hR
      obtain ⟨L, hL⟩ : ∃ L, L = g.live.length := ⟨_, rfl⟩
      have hL8 : L ≤ n := by rw [hL, ← v.n]; exact liveTo_le g g.n
      rw [hg, ← hL] at hLL
      have HLL := Lib.hid hLL
      have K := Lib.hid (And.intro k (And.intro ok (And.intro v (And.intro ev (And.intro T (And.intro hg hL))))))
      have hm80 : m ≤ 80 := by omega
      have hi80 : i ≤ 80 := by omega
      clear k ok v ev T hR hL hLL hg
      by_cases hil : i < len1
      · obtain ⟨x0, hx0, hc0⟩ := HR.out i hil
        have hcx : wr.cell? (x0.add i) = some (.int .i64 (z1.getD i 0)) := ((B1.out.trans ((of_turn K.out.2.2.2.2.1).mono B1.out.size)).cell (lt_of_cell hc0)).trans hc0
        obtain ⟨q, hq⟩ : ∃ q, q = z1.getD i 0 := ⟨_, rfl⟩
        rw [← hq] at hcx
        subst hx0
        have hilI : (i : Int) < (len1 : Int) := by omega
        clear hc0 hq
        go_wp2_with (fail)
        refine HLL.out.mono ?_
        rintro e W3 ⟨ad, c, ho, rfl, hs, t3⟩
        have TA := Lib.hid (K.out.2.2.2.2.1.trans (Own.Turn.behind (r := [(W2.heap.size, o)]) t3 K.out.2.2.2.2.1.has))
        have HS := Lib.hid hs
        clear hs t3 HLL
        have TD := Lib.hid (Own.Turn.drop (b := _ :: l.heap g) (c := ho) (TA.out.perm (List.Perm.refl _) (List.Perm.cons _ List.perm_append_comm : List.Perm _ (_ :: (l.heap g ++ ho)))))
        rcases (show ((bits .and .i64 q 1) == 0) = true ∨ (((bits .and .i64 q 1) == 0) = false ∧ L = 0) ∨ (((bits .and .i64 q 1) == 0) = false ∧ 0 < L) by
          cases ((bits .and .i64 q 1) == 0) <;> simp <;> omega) with hA | ⟨hA, hL0⟩ | ⟨hA, hL0⟩
        case inr.inr =>
          have hL0I : ((L : Int) == 0) = false := by rw [beq_eq_false_iff_ne]; omega
          obtain ⟨kk, hkk, hsl⟩ := Int64.slot (q / 2) L hL0 (by omega)
          have hil2 : (ints g.live).length = L := by rw [K.out.2.2.2.2.2.2]; exact List.length_map ..
          obtain ⟨b, oo, c', hv, hcell⟩ := row_cells HS.out (by omega)
          rw [hil2] at hv
          injection hv with hv1 hv2 hv3
          have hkl : kk < g.live.length := by rw [← K.out.2.2.2.2.2.2]; exact hkk
          obtain ⟨id, hid⟩ : ∃ id, id = g.live[kk]'hkl := ⟨_, rfl⟩
          have hck : W3.cell? ⟨b, oo + kk, none⟩ = some (.int .i64 (id : Int)) := by
            rw [hcell W3 (Own.Has.left (b := l.heap g) (Own.Has.right (a := [_]) TA.out.has)) kk (by omega), hid]
            simp [ints]
          obtain ⟨j, hf, hsj, hij, hmj⟩ := K.out.2.2.1.live id (by rw [hid]; exact List.getElem_mem hkl)
          have hlj : j < g.slots.length := (List.getElem?_eq_some_iff.1 hsj).1
          have hkkI : (kk : Int) < (L : Int) := by omega
          rw [hv1]
          have HCan := cancel_any K.out.1 K.out.2.1 (Own.Has.right (a := [_]) TD.out.has) id j hf Se.new hsj rfl (by decide)
          rw [K.out.2.2.2.2.2.1] at HCan
          have HCan := Lib.hid HCan
          have HJ := Lib.hid (And.intro hsj (And.intro hij (And.intro hmj hlj)))
          clear hf hsj hij hmj hlj hid hkl hcell hil2 hv1 hv2 hv3
          go_wp2_with (fail)
          refine HCan.out.mono ?_
          rintro e W4 ⟨rfl, l2, g2, k2, o2, h2', like2, e2, t2⟩
          have h2k : g2.slots[j]? = some (some (Sess.over Se.new 13)) := by rw [h2', List.getElem?_set_self HJ.out.2.2.2]
          have hf2 : g2.find (id : Int) = some j := find_at g2 j id (by rw [like2.n]; exact HJ.out.2.2.1) _ h2k (by rw [like2.ids]; exact HJ.out.2.1)
          have T4 := TD.out.trans (Own.Turn.behind (r := [(W2.heap.size, o)]) t2 TD.out.has)
          have HWr := write_any k2 o2 (Own.Has.right (a := [_]) T4.has) id 99 (by omega) j hf2 _ h2k rfl (by simp [Sess.over]) (by decide)
          rw [e2] at HWr
          have HWr := Lib.hid HWr
          have H2 := Lib.hid (And.intro h2' (And.intro like2 T4))
          clear k2 o2 h2' like2 e2 t2 h2k hf2 T4 HCan
          go_wp2_with (fail)
          refine HWr.out.mono ?_
          rintro e W5 ⟨rfl, l3, g3, k3, o3, s3, n3, i3, m3, r3, u3, e3, t3⟩
          have T5 := H2.out.2.2.trans (Own.Turn.behind (r := [(W2.heap.size, o)]) t3 H2.out.2.2.has)
          have hs3 : g3.slots = g.slots.set j none := by rw [s3, H2.out.1, List.set_set]
          have hlive3 : g3.live.length = L - 1 := by
            rw [live_len g3 k3.len, hs3, K.out.2.2.2.2.2.2, live_len g K.out.1.len]
            have h9 := count_set g.slots j HJ.out.2.2.2 none
            have h10 : g.slots[j]'HJ.out.2.2.2 = some Se.new := by
              have h11 := HJ.out.1
              rw [List.getElem?_eq_getElem HJ.out.2.2.2] at h11
              exact Option.some.inj h11
            rw [h10] at h9
            simp at h9
            omega
          have I3 := K.out.2.2.1.freed j hs3 (n3.trans H2.out.2.1.n) (i3.trans H2.out.2.1.ids) (m3.trans H2.out.2.1.many) (by rw [u3, H2.out.2.1.turns])
          have HL3 := live_any k3 (Own.Has.right (a := [_]) T5.has)
          rw [hlive3, e3] at HL3
          have HL3 := Lib.hid HL3
          have H5 := Lib.hid (And.intro k3 (And.intro o3 (And.intro I3 (And.intro e3 T5))))
          have hi1 : ((L - 1 : Nat) : Int) = (L : Int) - 1 := by omega
          clear k3 o3 s3 n3 i3 m3 r3 u3 e3 t3 T5 hs3 hlive3 I3 HWr
          go_wp2_with (fail)
          refine HL3.out.mono ?_
          rintro e W6 ⟨ad6, c6, ho6, rfl, hs6, t6⟩
          have T6 := Lib.hid (H5.out.2.2.2.2.trans (Own.Turn.behind (r := [(W2.heap.size, o)]) t6.forget H5.out.2.2.2.2.has))
          clear hs6 t6 HL3
          go_wp2
          go_roundw
          case rel => exact ⟨i + 1, m, l3, g3, o, by go_num, rfl, by omega, by omega, H5.out.1, H5.out.2.1, H5.out.2.2.1, K.out.2.2.2.1, H5.out.2.2.2.1, T6.out⟩
          case measure => simp [intOf]; omega
        all_goals
          have hLnI : (L : Int) ≤ (n : Int) := by omega
          by_cases hLn : L = n
          · first
            | (exfalso; omega)
            | skip
            all_goals
             have hE : ((L : Int) == (n : Int)) = true := by rw [hLn]; simp
             have FF := full_connect K.out.1 (Own.Has.right (a := [_]) TD.out.has) (full_of g K.out.1.len (by rw [← K.out.2.2.2.2.2.2, hLn, K.out.2.2.1.n]))
             rw [K.out.2.2.2.2.2.1] at FF
             have FF := Lib.hid FF
             clear hLn
             go_wp2_with (fail)
             refine FF.out.mono ?_
             rintro e W4 ⟨rfl, rfl⟩
             go_wp2
             go_roundw
             case rel => exact ⟨i + 1, m, l, g, o, by go_num, rfl, by omega, by omega, K.out.1, K.out.2.1, K.out.2.2.1, K.out.2.2.2.1, K.out.2.2.2.2.2.1, TD.out⟩
             case measure => simp [intOf]; omega
          · have hE : ((L : Int) == (n : Int)) = false := by rw [beq_eq_false_iff_ne]; omega
            obtain ⟨i0, hi0, hfirst⟩ := room_of g K.out.1.len (by rw [← K.out.2.2.2.2.2.2, K.out.2.2.1.n]; exact hLn)
            have hi0n : i0 < n := by
              have := (List.getElem?_eq_some_iff.1 hi0).1
              rw [K.out.1.len, K.out.2.2.1.n] at this
              exact this
            have HC := connect_any K.out.1 K.out.2.1 (Own.Has.right (a := [_]) TD.out.has) i0 hi0 hfirst (by rw [K.out.2.2.1.many]; omega) (by have := K.out.2.2.1.turns; omega)
            rw [K.out.2.2.1.n, K.out.2.2.1.many, K.out.2.2.2.2.2.1] at HC
            obtain ⟨M, hM⟩ : ∃ M, M = n * m := ⟨_, rfl⟩
            have hM640 : M ≤ 640 := by rw [hM]; exact Nat.mul_le_mul h8 hm80
            rw [← hM] at HC
            have HC := Lib.hid HC
            have hq1 : (i0 + M) / n = m := by rw [hM, Nat.add_mul_div_left _ _ hp, Nat.div_eq_of_lt hi0n]; omega
            have hdiv' : ((i0 : Int) + (M : Int)) / (n : Int) = (m : Int) := by rw [← Int.natCast_add, ← Int.natCast_ediv, hq1]
            have hdiv : ((i0 : Int) + (M : Int)).tdiv (n : Int) = (m : Int) := by rw [Int.tdiv_eq_ediv_of_nonneg (by omega), hdiv']
            have HQ := Lib.hid (And.intro hq1 (And.intro hi0n hM))
            have hi08 : i0 ≤ 8 := by omega
            clear hLn hi0 hfirst hq1 hi0n hM
            go_wp2_with (fail)
            refine HC.out.mono ?_
            rintro e W4 ⟨rfl, l4, c4, k4, o4, e4, t4⟩
            have T4 := TD.out.trans (Own.Turn.behind (r := [(W2.heap.size, o)]) t4 TD.out.has)
            have hb4 : W4.heap[W2.heap.size]? = some o := T4.has.here (W2.heap.size, o) (List.mem_cons_self ..)
            have hrun := ever_run K.out.2.2.2.1 hb4 (i0 + M) (by omega) (by rw [HQ.out.1]; exact Nat.le_refl _)
            obtain ⟨W5, o5, hst, hb5, ev5, hg5⟩ := ever_store K.out.2.2.2.1 hb4 (by omega) (i0 + M) (by omega) HQ.out.1
            rw [Int.natCast_add] at hrun hst
            have T5 := Lib.hid (Timer.turnObj T4 hg5 o5 hb5)
            have H5 := Lib.hid (And.intro k4 (And.intro o4 (And.intro e4 ev5)))
            clear k4 o4 e4 t4 T4 hb4 hb5 ev5 hg5 HC
            go_wp2
            go_roundw
            case rel => exact ⟨i + 1, m + 1, l4, _, o5, by go_num, by go_num, by omega, by omega, H5.out.1, H5.out.2.1, K.out.2.2.1.begin_ i0 c4 HQ.out.2.1, H5.out.2.2.2, H5.out.2.2.1, T5.out⟩
            case measure => simp [intOf]; omega
      · have hilI : (len1 : Int) ≤ (i : Int) := by omega
        go_wp2_with (fail)
        refine HLL.out.mono ?_
        rintro e W3 ⟨ad, c, ho, rfl, hs, t3⟩
        have HB := Lib.hid (B1.out.trans ((of_turn (K.out.2.2.2.2.1.trans (Own.Turn.behind (r := [(W2.heap.size, o)]) t3 K.out.2.2.2.2.1.has))).mono B1.out.size))
        have hLI : (L : Int) ≤ (n : Int) := by omega
        clear hs t3
        go_wp2
        go_ret
        first
        | exact ⟨rfl, HB.out⟩
        | exact ⟨Own.ret_bool (by simp; omega), HB.out⟩
  all_goals
    go_enter Try.func5, Try.ntmps5
    go_wp2_with (fail)
    refine (HA.out _).mono ?_
    rintro e W1 ⟨rfl, b1⟩
    have B1 := Lib.hid b1
    clear b1
    go_wp2
    go_ret
    exact ⟨rfl, B1.out⟩
end Go.Proofs.Ytpeimoknmlmppaa.gateIds
