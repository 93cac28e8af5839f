/- Texts of the walk, joined: EscF. -/
import Derived.Test.YthnbpnfaghjamaaGreatM03
import Derived.Laws.Cover4
/- The reader's numbers stay small; a step's text is short. No program in sight. -/
namespace Go.Proofs.YthnbpnfaghjamaaGreat
namespace Esc

theorem start_lack (c : Chk) (b : UInt8) (h : c.lack ≤ 3) : (c.start b).1.lack ≤ 3 := by
  unfold Chk.start
  repeat' split
  all_goals (dsimp only; omega)

theorem cstep_lack (c : Chk) (b : UInt8) (h : c.lack ≤ 3) : (c.step b).1.lack ≤ 3 := by
  unfold Chk.step
  repeat' split
  all_goals first | exact h | exact start_lack c b h | (dsimp only; omega)

theorem hex_lt (b : UInt8) : (hex b).toNat < 16 := by
  unfold hex
  repeat' split
  all_goals omega

theorem Rdr.zero_fits : Rdr.zero.Fits := ⟨by decide, by decide, by decide, by decide, by decide, by decide, by decide⟩

theorem mk_fits (c : Chk) (st v n p e : Nat) (h1 : c.lack ≤ 3) (h2 : st ≤ 2) (h3 : n ≤ 4) (h4 : st = 2 → n ≤ 3) (h5 : v < 16 ^ n) (h6 : p < 65536) (h7 : e < 256) : Rdr.Fits ⟨c, st, v, n, p, e⟩ :=
  ⟨h1, h2, h3, h4, h5, h6, h7⟩

theorem plain_fits {r : Rdr} (hf : r.Fits) (b : UInt8) : (latch (r.plain b)).1.Fits := by
  have h1 := cstep_lack r.c b hf.lack
  unfold Rdr.plain
  split
  · exact mk_fits _ _ _ _ _ _ hf.lack hf.state hf.n hf.dig hf.val hf.pair (by dsimp only; first | decide | omega)
  · split
    · exact mk_fits _ _ _ _ _ _ h1 hf.state hf.n hf.dig hf.val hf.pair (by dsimp only; first | decide | omega)
    · split
      · exact mk_fits _ _ _ _ _ _ h1 (by dsimp only; first | decide | omega) hf.n (fun h => absurd h (by dsimp only; first | decide | omega)) hf.val hf.pair (by dsimp only; first | decide | omega)
      · exact mk_fits _ _ _ _ _ _ h1 hf.state hf.n hf.dig hf.val hf.pair (by dsimp only; first | decide | omega)

theorem behind_fits {r : Rdr} (hf : r.Fits) (b : UInt8) : (latch (r.behind b)).1.Fits := by
  unfold Rdr.behind
  split
  · exact mk_fits _ _ _ _ _ _ hf.lack (by dsimp only; first | decide | omega) (by dsimp only; first | decide | omega) (fun _ => by dsimp only; decide) (by dsimp only; first | decide | omega) hf.pair (by dsimp only; first | decide | omega)
  · split
    · exact mk_fits _ _ _ _ _ _ hf.lack hf.state hf.n hf.dig hf.val hf.pair (by dsimp only; first | decide | omega)
    · exact mk_fits _ _ _ _ _ _ hf.lack (by dsimp only; first | decide | omega) hf.n (fun h => absurd h (by dsimp only; first | decide | omega)) hf.val hf.pair (by dsimp only; first | decide | omega)

theorem digit_fits {r : Rdr} (hf : r.Fits) (b : UInt8) (hn : r.n ≤ 3) : (latch (r.digit b)).1.Fits := by
  have hh := hex_lt b
  have hv : r.r * 16 + (hex b).toNat < 16 ^ (r.n + 1) := by
    have := hf.val
    rw [Nat.pow_succ]
    omega
  have hv4 : 16 ^ (r.n + 1) ≤ 65536 := Nat.pow_le_pow_right (n := 16) (by decide) (show r.n + 1 ≤ 4 by omega)
  unfold Rdr.digit
  split
  · exact mk_fits _ _ _ _ _ _ hf.lack hf.state hf.n hf.dig hf.val hf.pair (by dsimp only; first | decide | omega)
  · dsimp only
    split
    · rename_i h4
      exact mk_fits _ _ _ _ _ _ hf.lack hf.state (by dsimp only; first | decide | omega) (fun _ => by dsimp only; omega) hv hf.pair (by dsimp only; first | decide | omega)
    · split
      · exact mk_fits _ _ _ _ _ _ hf.lack (by dsimp only; first | decide | omega) (by dsimp only; first | decide | omega) (fun h => absurd h (by dsimp only; first | decide | omega)) hv (by dsimp only; first | decide | omega) (by dsimp only; first | decide | omega)
      · split
        · exact mk_fits _ _ _ _ _ _ hf.lack (by dsimp only; first | decide | omega) (by dsimp only; first | decide | omega) (fun h => absurd h (by dsimp only; first | decide | omega)) hv hf.pair (by dsimp only; first | decide | omega)
        · split
          · exact mk_fits _ _ _ _ _ _ hf.lack (by dsimp only; first | decide | omega) (by dsimp only; first | decide | omega) (fun h => absurd h (by dsimp only; first | decide | omega)) hv (by dsimp only; first | decide | omega) (by dsimp only; first | decide | omega)
          · exact mk_fits _ _ _ _ _ _ hf.lack (by dsimp only; first | decide | omega) (by dsimp only; first | decide | omega) (fun h => absurd h (by dsimp only; first | decide | omega)) hv hf.pair (by dsimp only; first | decide | omega)

theorem step_fits {r : Rdr} (hf : r.Fits) (b : UInt8) : (r.step b).1.Fits := by
  unfold Rdr.step
  split
  · exact hf
  · split
    · exact mk_fits _ _ _ _ _ _ hf.lack hf.state hf.n hf.dig hf.val hf.pair (by decide)
    · split
      · exact plain_fits hf b
      · split
        · exact behind_fits hf b
        · have h2 := hf.state
          exact digit_fits hf b (hf.dig (by omega))

theorem rune_length (x : Int) : (rune x).length ≤ 4 := by
  unfold rune
  split
  · simp
  · rw [Array.length_toList]; exact encode_size_le x

theorem step_length (r : Rdr) (b : UInt8) : (r.step b).2.1.length ≤ 4 := by
  unfold Rdr.step
  split
  · simp
  · split
    · simp
    · split
      · unfold Rdr.plain latch
        repeat' split
        all_goals simp
      · split
        · unfold Rdr.behind latch
          repeat' split
          all_goals simp
        · unfold Rdr.digit latch
          dsimp only
          repeat' split
          all_goals first | exact rune_length _ | simp

/-- escape.Read: all of the bytes. -/
def read (l : List UInt8) : List UInt8 × Nat :=
  if (ans Rdr.zero l []).2.2 ≠ 0 then ([], (ans Rdr.zero l []).2.2)
  else if (ans Rdr.zero l []).2.1 = true then ((ans Rdr.zero l []).1, 0) else ([], 3)
end Esc
end Go.Proofs.YthnbpnfaghjamaaGreat
