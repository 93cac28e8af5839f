/- SessionRooms: the walk. -/
import Derived.Test.YtnnkkgglfajmhaaGreatM45
import Derived.Test.YtnnkkgglfajmhaaGreatM47
import Derived.Carry
set_option maxRecDepth 100000
set_option maxHeartbeats 8000000
namespace Go.Proofs.YtnnkkgglfajmhaaGreat.sessionRooms
open Go.RowKit
open Ses Pip
def IsRow (k : IntKind) (w : World) (a : Option Addr) (len cap : Nat) (zs : List Int) : Prop :=
 (a = none ∧ len = 0 ∧ cap = 0 ∧ zs = []) ∨
 ∃ x, a = some x ∧ len ≤ cap ∧ cap ≤ maxLen ∧ zs.length = cap ∧ (∀ i, i < zs.length → w.cell? (x.add i) = some (.int k (zs.getD i 0))) ∧ ∀ n ∈ zs, (Lit.int k n).wf = true
theorem lt_of_cell {w : World} {x : Addr} {v : Value} (h : w.cell? x = some v) : x.block < w.heap.size := by
 unfold World.cell? at h
 cases hb : w.heap[x.block]? with
 | none => rw [hb] at h; simp at h
 | some o => exact (Array.getElem?_eq_some_iff.1 hb).1
theorem wf64 {z : Int} (h : (Lit.int .i64 z).wf = true) : -9223372036854775808 ≤ z ∧ z ≤ 9223372036854775807 := by
 have h' : (decide ((-9223372036854775808 : Int) ≤ z) && decide (z ≤ (9223372036854775807 : Int))) = true := h
 simpa using h'
theorem walk (T : Esc.Tabs) (b : ByteArray) (a1 : Option Addr) (len1 cap1 : Nat) (z1 : List Int) (_zb : b.size ≤ 140737488355327) (w : World) (hT : Esc.TabsAt T w) (w1 : IsRow .i64 w a1 len1 cap1 z1) :
  Calls Tryz.prog 3 #[.string b, .slice a1 len1 cap1] w fun e w' => e = .returned (.bool true) ∧ Below w.heap.size w w' := by
 have BT := hhh (fun (u v : World) (b : Below w.heap.size w u) (b2 : Below u.heap.size u v) => (b.trans (b2.mono b.size) : Below w.heap.size w v))
 have HTb := hhh (fun (u : World) (h : Below w.heap.size w u) => (hT.of (h.mono hT.size) : Esc.TabsAt T u))
 have HA := hhh (alive23_any w hT)
 have hrow : ∀ k, k < len1 → ∃ x, a1 = some x ∧ w.cell? (x.add k) = some (.int .i64 (z1.getD k 0)) := by
  intro k hk
  rcases w1 with ⟨_, rfl, _, _⟩ | ⟨x, rfl, h1, h2, h3, h4, h5⟩
  ·omega
  ·exact ⟨x, rfl, h4 k (by omega)⟩
 have HR := hhh hrow
 have hlen : len1 ≤ maxLen := by
  rcases w1 with ⟨_, rfl, _, _⟩ | ⟨x, rfl, h1, h2, h3, h4, h5⟩ <;> omega
 clear w1 hrow hT
 rcases (show 300 < b.size ∨ (b.size ≤ 300 ∧ 60 < len1) ∨ (b.size ≤ 300 ∧ len1 ≤ 60) by omega) with hb | ⟨hb, hl⟩ | ⟨hb, hl⟩
 case inr.inr =>
  have hbI : (b.size : Int) ≤ 300 := by omega
  have hlI : (len1 : Int) ≤ 60 := by omega
  clear hlen
  go_enter Tryz.func3, Tryz.ntmps3
  go_wp2_with (fail)
  refine HA.out.mono ?_
  rintro e W1 ⟨rfl, b1⟩
  have B1 := hhh b1
  clear b1
  go_wp2_with (fail)
  refine (Ses.new_any _).mono ?_
  rintro e W2 ⟨sb, h0, rfl, i0, t0⟩
  have H0 := hhh (And.intro i0 t0)
  clear i0 t0
  go_wp2
  go_loopw [6, 7, 30] (fun tm lf x wr => ∃ (i : Nat) (l : List UInt8) (r : ByteArray) (h : Own.Heap), x = .int .i64 i ∧ tm = .int .i64 (l.length : Nat) ∧ lf = .string r ∧ i ≤ len1 ∧ l.length ≤ 64 ∧ r.size ≤ 300 ∧ Is (fresh l) sb h ∧ Own.Turn [] h W1 wr) (fun _ _ x _ => len1 - (intOf x).toNat)
  case atStart => exact ⟨0, [], b, h0, rfl, rfl, rfl, by omega, by decide, hb, H0.out.1, H0.out.2⟩
  case round =>
   obtain ⟨i, l, r, h, rfl, rfl, rfl, hi, hl64, hr, k, tt⟩ := hrel
   have K := hhh (And.intro k tt)
   have HM := hhh hl64
   obtain ⟨M, hM⟩ : ∃ M, M = l.length := ⟨_, rfl⟩
   rw [← hM] at hl64 ⊢
   have HMe := hhh hM
   clear k tt hM
   by_cases hil : i < len1
   ·obtain ⟨x0, hx0, hc0⟩ := HR.out i hil
    have hcx : wr.cell? (x0.add i) = some (.int .i64 (z1.getD i 0)) := ((BT.out _ _ B1.out (K.out.2.below (fun x hx => by cases hx) (Nat.le_refl _))).cell (lt_of_cell hc0)).trans hc0
    obtain ⟨q, hq⟩ : ∃ q, q = z1.getD i 0 := ⟨_, rfl⟩
    rw [← hq] at hcx
    subst hx0
    have hilI : (i : Int) < (len1 : Int) := by omega
    have HF := hhh (feed_any K.out.1 K.out.2.has r (by omega) q)
    obtain ⟨N, hN⟩ : ∃ N, N = (fresh l).takes r.data.toList q := ⟨_, rfl⟩
    have hNs : N = min (min r.size q.toNat) (64 - M) := by rw [hN, fresh_takes, HMe.out]; rfl
    have hNi : (N : Int) = max (min (min (r.size : Int) (64 - (M : Int))) q) 0 := by rw [hNs]; exact takes_int _ _ _ hl64
    rw [← hN, fresh_feed, ← hN] at HF
    have HN := hhh hNi
    have hN1 : N ≤ r.size := by omega
    have hN2 : M + N ≤ 64 := by omega
    clear hc0 hq hN hNs
    have hsel : ((r.size : Int) ≤ 64 - (M : Int) ∧ (r.size : Int) ≤ q ∧ ((N : Int) != max (r.size : Int) 0) = false) ∨ (64 - (M : Int) < (r.size : Int) ∧ 64 - (M : Int) ≤ q ∧ ((N : Int) != max (64 - (M : Int)) 0) = false) ∨ (q < (r.size : Int) ∧ q < 64 - (M : Int) ∧ ((N : Int) != max q 0) = false) := by
     simp only [bne_eq_false_iff_eq]; omega
    clear hNi
    obtain ⟨L2, hL2⟩ : ∃ L2, L2 = l ++ r.data.toList.take N := ⟨_, rfl⟩
    have hL2n : L2.length = M + N := by rw [hL2, List.length_append, List.length_take, ← HMe.out, show r.data.toList.length = r.size from Array.length_toList]; omega
    rw [← hL2] at HF
    have HL := hhh hL2n
    clear hL2 hL2n
    have HG := hhh (fresh_good T L2 (by rw [HL.out]; exact hN2))
    have hrd : (fresh L2).ready = decide (0 < (M : Int) + (N : Int)) := by
     rw [fresh_ready, HL.out]; exact decide_eq_decide.2 (by omega)
    have hch : ((fresh L2).charge : Int) = (M : Int) + (N : Int) + 2 := by rw [fresh_charge, HL.out]; omega
    have HE := hhh (And.intro hrd hch)
    have hMI : (M : Int) + (N : Int) ≤ 64 := by omega
    clear hrd hch
    rcases hsel with ⟨s1, s2, s3⟩ | ⟨s1, s2, s3⟩ | ⟨s1, s2, s3⟩
    all_goals
     go_wp2_with (fail)
     refine HF.out.mono ?_
     rintro e W3 ⟨rfl, h3, i3, t3⟩
     have H3 := hhh (And.intro i3 (K.out.2.trans t3))
     clear i3 t3 HF
     have HC := charge_any (T := T) H3.out.1 H3.out.2.has HG.out (by omega)
     rw [HE.out.2] at HC
     have HC := hhh HC
     have HRd := hhh (fun m => ready_any H3.out.1 (H3.out.2.has.drewN m))
     rw [HE.out.1] at HRd
     go_wp2_with (fail)
     refine HC.out.mono ?_
     rintro e W4 ⟨rfl, m4, rfl⟩
     go_wp2_with (fail)
     refine (HRd.out m4).mono ?_
     rintro e W5 ⟨rfl, rfl⟩
     go_wp2
     go_roundw
     case rel => exact ⟨i + 1, L2, _, h3, by congr 1, by rw [HL.out]; congr 1, rfl, by omega, by rw [HL.out]; exact hN2, by rw [ByteArray.size_extract]; omega, H3.out.1, H3.out.2.drewN m4⟩
     case measure => simp [intOf]; omega
   ·obtain rfl : i = len1 := by omega
    have HM2 := hhh (K.out.2.below (fun x hx => by cases hx) (Nat.le_refl _))
    have hM64 : (M : Int) ≤ 64 := by omega
    go_wp2
    go_ret
    exact ⟨rfl, BT.out _ _ B1.out HM2.out⟩
 all_goals
  go_enter Tryz.func3, Tryz.ntmps3
  go_wp2_with (fail)
  refine HA.out.mono ?_
  rintro e W1 ⟨rfl, b1⟩
  have B1 := hhh b1
  clear b1
  go_wp2
  go_ret
  exact ⟨rfl, B1.out⟩
end Go.Proofs.YtnnkkgglfajmhaaGreat.sessionRooms
