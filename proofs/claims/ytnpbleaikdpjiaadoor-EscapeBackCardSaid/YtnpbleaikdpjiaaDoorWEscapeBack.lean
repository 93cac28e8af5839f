/- EscapeBack: the walk. -/
import Derived.Test.YtnpbleaikdpjiaaDoorAlive5
import Derived.Test.YtnpbleaikdpjiaaDoorEscBack
import Derived.OpenShut
namespace Go.Proofs.YtnpbleaikdpjiaaDoor.escapeBack
open Go.RowKit

def IsRow (k : IntKind) (w : World) (a : Option Addr) (len cap : Nat) (zs : List Int) : Prop :=
  (a = none ∧ len = 0 ∧ cap = 0 ∧ zs = []) ∨
  ∃ x, a = some x ∧ len ≤ cap ∧ cap ≤ maxLen ∧ zs.length = cap ∧ (∀ i, i < zs.length → w.cell? (x.add i) = some (.int k (zs.getD i 0))) ∧ ∀ n ∈ zs, (Lit.int k n).wf = true

theorem lt_of_cell {w : World} {x : Addr} {v : Value} (h : w.cell? x = some v) : x.block < w.heap.size := by
  unfold World.cell? at h
  cases hb : w.heap[x.block]? with
  | none => rw [hb] at h; simp at h
  | some o => exact (Array.getElem?_eq_some_iff.1 hb).1

theorem take_snoc (zs : List Int) (k : Nat) (h : k < zs.length) : zs.take (k + 1) = zs.take k ++ [zs.getD k 0] := by
  rw [List.take_succ_eq_append_getElem h, List.getD_eq_getElem?_getD, List.getElem?_eq_getElem h]; rfl

theorem quoted_at (q : List UInt8) (h : Esc.Quoted q) (Q : ByteArray) (hQ : Q = ⟨q.toArray⟩) (k : Nat) (hk : k < Q.size) :
    32 ≤ (Q[k]'hk).toNat ∧ (Q[k]'hk = 34 → ∃ j, k = j + 1 ∧ ∀ hj : j < Q.size, Q[j]'hj = 92) := by
  subst hQ
  have hl : k < q.length := by rw [Mem.size_mk] at hk; exact hk
  have e : ∀ j (hj : j < (⟨q.toArray⟩ : ByteArray).size), (⟨q.toArray⟩ : ByteArray)[j]'hj = q.getD j 0 := by
    intro j hj
    have hj2 : j < q.length := by rw [Mem.size_mk] at hj; exact hj
    rw [List.getD_eq_getElem?_getD, List.getElem?_eq_getElem hj2]
    rfl
  obtain ⟨h1, h2⟩ := h k hl
  rw [e k hk]
  refine ⟨h1, fun h3 => ?_⟩
  obtain ⟨h4, h5⟩ := h2 h3
  refine ⟨k - 1, by omega, fun hj => ?_⟩
  rw [e _ hj]
  exact h5

set_option maxRecDepth 100000 in
set_option maxHeartbeats 2000000 in
theorem walk (a0 : Option Addr) (len0 cap0 : Nat) (z0 : List Int) (w : World) (w0 : IsRow .i64 w a0 len0 cap0 z0) (hT : Lib.Utf8Tabs 0 1 w) :
    Calls Tryd.prog 4 #[.slice a0 len0 cap0] w fun e w' => e = .returned (.bool true) ∧ Below w.heap.size w w' := by
  have HT := Lib.hid hT
  clear hT
  have hml : len0 ≤ maxLen := by
    rcases w0 with ⟨_, rfl, _, _⟩ | ⟨x, _, h1, h2, _⟩
    · omega
    · omega
  unfold maxLen at hml
  by_cases hl : len0 > 60
  · clear w0
    go_enter Tryd.func4, Tryd.ntmps4
    go_wp2_with (fail)
    refine (Alive5.any w HT.out).mono ?_
    rintro e w1 ⟨rfl, b1⟩
    go_wp2
    go_ret
    exact ⟨rfl, b1⟩
  have hrow : ∀ k, k < len0 → ∃ x, a0 = some x ∧ w.cell? (x.add k) = some (.int .i64 (z0.getD k 0)) := by
    intro k hk
    rcases w0 with ⟨_, rfl, _, _⟩ | ⟨x, rfl, h1, h2, h3, h4, h5⟩
    · omega
    · exact ⟨x, rfl, h4 k (by omega)⟩
  have hzl : len0 ≤ z0.length := by
    rcases w0 with ⟨_, rfl, _, rfl⟩ | ⟨x, _, h1, h2, h3, _⟩
    · exact Nat.le_refl _
    · omega
  clear w0
  have HR := Lib.hid hrow
  clear hrow
  go_enter Tryd.func4, Tryd.ntmps4
  go_wp2_with (fail)
  refine (Alive5.any w HT.out).mono ?_
  rintro e w1 ⟨rfl, b1⟩
  have hb1s := b1.size
  go_wp2
  go_loopw [3, 20] (fun s i wr => ∃ k : Nat, i = .int .i64 k ∧ k ≤ len0 ∧ s = .string ⟨(Esc.text (z0.take k)).toArray⟩ ∧ Below w.heap.size w wr) (fun _ i _ => len0 - (intOf i).toNat)
  case atStart => exact ⟨0, rfl, by omega, rfl, b1⟩
  case round =>
    obtain ⟨k, rfl, hk, rfl, hbw⟩ := hrel
    have hbs := hbw.size
    by_cases hlt : k < len0
    · obtain ⟨x, rfl, hc⟩ := HR.out k hlt
      have hc' : wr.cell? (x.add k) = some (.int .i64 (z0.getD k 0)) := (hbw.cell (lt_of_cell hc)).trans hc
      have HC := Lib.hid hc
      clear hc
      obtain ⟨q, hq⟩ : ∃ q, q = z0.getD k 0 := ⟨_, rfl⟩
      rw [← hq] at hc'
      have htk : Esc.text (z0.take (k + 1)) = Esc.text (z0.take k) ++ Esc.rune q := by rw [take_snoc z0 k (by omega), Esc.text_snoc, hq]
      have HTK := Lib.hid htk
      have hsz : (Esc.text (z0.take k)).length ≤ 240 := by
        have := (Esc.back_text (z0.take k)).2.2
        have := List.length_take_le k z0
        omega
      have hrl := Esc.rune_length q
      obtain ⟨S, hS⟩ : ∃ S : ByteArray, S = ⟨(Esc.text (z0.take k)).toArray⟩ := ⟨_, rfl⟩
      obtain ⟨U, hU⟩ : ∃ U : ByteArray, U = ⟨(Esc.rune q).toArray⟩ := ⟨_, rfl⟩
      have hSs : S.size ≤ 240 := by rw [hS, Mem.size_mk]; exact hsz
      have hUs : U.size ≤ 4 := by rw [hU, Mem.size_mk]; exact hrl
      have HN := Lib.hid (fun W => Ref.rune_any q W)
      rw [← hU] at HN
      rw [← hS]
      have HE := Lib.hid (show (⟨(Esc.text (z0.take (k + 1))).toArray⟩ : ByteArray) = S ++ U by rw [hS, hU, Mem.append_mk, htk])
      clear hS hU hq htk hsz hrl
      go_wp2_with (fail)
      refine (HN.out _).mono ?_
      rintro e W1 ⟨rfl, b2⟩
      go_wp2
      go_roundw
      case rel => exact ⟨k + 1, by go_num, by omega, by rw [HE.out], hbw.trans (b2.mono hbs)⟩
      case measure => simp [intOf]; omega
    · obtain rfl : k = len0 := by omega
      obtain ⟨T, hT⟩ : ∃ T, T = Esc.text (z0.take k) := ⟨_, rfl⟩
      obtain ⟨g1, g2, g3⟩ := Esc.back_text (z0.take k)
      have hq := Esc.quoted_write T
      rw [← hT] at g1 g2 g3 ⊢
      have hlk := List.length_take_le k z0
      obtain ⟨q, hqd⟩ : ∃ q, q = Esc.write T := ⟨_, rfl⟩
      have HW := Lib.hid (fun W hW => Alive5.writeOf ⟨T.toArray⟩ (by rw [Mem.size_mk]; omega) q hqd.symm W hW)
      have HRd := Lib.hid (fun W => Alive5.readOf ⟨q.toArray⟩ (by rw [Mem.size_mk, hqd]; omega) (T, 0) (by rw [hqd]; exact g1) W)
      rw [← hqd] at hq g2
      obtain ⟨Q, hQ⟩ : ∃ Q : ByteArray, Q = ⟨q.toArray⟩ := ⟨_, rfl⟩
      have HQ := Lib.hid (quoted_at q hq Q hQ)
      have hQs : Q.size ≤ 360 := by rw [hQ, Mem.size_mk]; omega
      obtain ⟨S, hS⟩ : ∃ S : ByteArray, S = ⟨T.toArray⟩ := ⟨_, rfl⟩
      rw [← hQ, ← hS] at HW
      rw [← hQ, ← hS] at HRd
      rw [← hS]
      clear hS hQ hq g1 g2 g3 hqd hT HR b1
      have HTr := Lib.hid (Go.Proofs.Utf8Tabs_below HT.out hbw)
      go_wp2_with (fail)
      refine (HW.out _ HTr.out).mono ?_
      rintro e W1 ⟨rfl, b2⟩
      go_wp2_with (fail)
      refine (HRd.out _).mono ?_
      rintro e W2 ⟨rfl, b3⟩
      have hb3 := (hbw.trans (b2.mono hbs)).trans (b3.mono (hbw.trans (b2.mono hbs)).size)
      clear b2 b3
      go_wp2
      go_loop [9] (fun i => ∃ k : Nat, k ≤ Q.size ∧ i = .int .i64 k) (fun i => Q.size - (intOf i).toNat)
      case atStart => exact ⟨0, by omega, rfl⟩
      case round =>
        obtain ⟨k, hk, rfl⟩ := hrel
        by_cases hlt : k < Q.size
        · obtain ⟨c, hc⟩ : ∃ c, Q[k]'hlt = c := ⟨_, rfl⟩
          obtain ⟨h32, h34⟩ := HQ.out k hlt
          rw [hc] at h32 h34
          have h32' : (32 : Int) ≤ (c.toNat : Int) := by omega
          by_cases e34 : c = 34
          · obtain ⟨j, rfl, hj⟩ := h34 e34
            have hj := hj (by omega)
            have t34 : ((c.toNat : Int) == 34) = true := by rw [Int64.byte_eq c 34 34 rfl, e34]; rfl
            have tz : (((j + 1 : Nat) : Int) == 0) = false := beq_eq_false_iff_ne.mpr (by omega)
            have tz' : ((j : Int) + 1 == 0) = false := beq_eq_false_iff_ne.mpr (by omega)
            clear h34 e34
            go_wp2
            go_round
            case rel => exact ⟨j + 1 + 1, by omega, by go_num⟩
            case measure => simp [intOf]; omega
          · have t34 : ((c.toNat : Int) == 34) = false := by rw [Int64.byte_eq c 34 34 rfl]; exact beq_eq_false_iff_ne.mpr e34
            clear h34 e34
            go_wp2
            go_round
            case rel => exact ⟨k + 1, by omega, by go_num⟩
            case measure => simp [intOf]; omega
        · go_wp2
          go_ret
          exact ⟨Mem.ret_bool (by simp), hb3⟩
end Go.Proofs.YtnpbleaikdpjiaaDoor.escapeBack
