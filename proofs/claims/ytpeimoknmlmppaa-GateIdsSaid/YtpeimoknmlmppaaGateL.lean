/- Which sessions are live; whether two rows of numbers are the same. -/
import Derived.Test.YtpeimoknmlmppaaGateC
namespace Go.Proofs.Ytpeimoknmlmppaa
open Go.RowKit
namespace Gate
open Purse (ints)

/-- The ids of those that are live among the first j slots. -/
def Ga.liveTo (g : Ga) : Nat → List Nat
  | 0 => []
  | j + 1 => g.liveTo j ++ (match g.slots[j]? with | some (some _) => [g.ids.getD j 0] | _ => [])

def Ga.live (g : Ga) : List Nat := g.liveTo g.n

theorem liveTo_le (g : Ga) (j : Nat) : (g.liveTo j).length ≤ j := by
  induction j with
  | zero => exact Nat.le_refl _
  | succ j ih =>
    unfold Ga.liveTo
    rw [List.length_append]
    split <;> simp <;> omega

section
variable {l : Lay} {g : Ga} {w : World}

set_option maxRecDepth 100000 in
set_option maxHeartbeats 2000000 in
theorem live_any (k : l.Good g) (h : Own.Has w (l.heap g)) : Calls Try.prog 13 #[.pointer (some ⟨l.gb, 0, none⟩)] w fun e w' => ∃ ad c ho, e = .returned (.slice ad g.live.length c) ∧
    Own.Slc 3 (ints g.live) (.slice ad g.live.length c) ho ∧ Own.Turn (l.heap g) (ho ++ l.heap g) w w' := by
  have c0 := cell h 0 _ rfl
  have c1 := cell h 1 _ rfl
  have h8 := k.small
  obtain ⟨i0, hi, hz0, hz1, hz2⟩ := info_parts (P := Try.prog) (e := 3) (z := .int .i64 0) (size := 1) (bytes := 8) (by kernel_rfl)
  have Hi := Lib.hid (And.intro hi (And.intro hz0 (And.intro hz1 hz2)))
  have HH := Lib.hid h
  have K := Lib.hid k
  have Hlv := Lib.hid (show g.live = g.liveTo g.n from rfl)
  clear hi hz0 hz1 hz2 k
  go_enter Try.func13, Try.ntmps13
  go_wp2
  go_loopw [3, 13] (fun o i wr => ∃ (j m : Nat) (ad : Option Addr) (c : Nat) (ho : Own.Heap), o = .slice ad m c ∧ i = .int .i64 j ∧ j ≤ g.n ∧ m = (g.liveTo j).length ∧ Own.Slc 3 (ints (g.liveTo j)) (.slice ad m c) ho ∧ Own.Turn (l.heap g) (ho ++ l.heap g) w wr) (fun _ i _ => g.n - (intOf i).toNat)
  case atStart => exact ⟨0, 0, none, 0, [], rfl, rfl, by omega, rfl, Own.Slc.bare none rfl, Own.Turn.refl HH.out⟩
  case round =>
    obtain ⟨j, m, ad, c, ho, rfl, rfl, hj, hm, hs, ht⟩ := hrel
    have HM := Lib.hid hm
    have HSl := Lib.hid hs
    have HT := Lib.hid ht
    have hR := ht.has.right
    clear hm hs
    by_cases hjn : j < g.n
    · have hjv : j < l.vs.length := by rw [K.out.vlen]; exact hjn
      have hji : j < g.ids.length := by rw [K.out.ids]; exact hjn
      have hjs : j < g.slots.length := by rw [K.out.len]; exact hjn
      have hI : (j : Int) < (g.n : Int) := by omega
      have d0 := cell hR 0 _ rfl
      have d1 := cell hR 1 _ rfl
      have cs := cellS hR j _ (List.getElem?_eq_getElem hjv)
      have ci := cellI hR j hji
      have hml : m ≤ 8 := by have := HM.out; have := liveTo_le g j; omega
      cases hs : g.slots[j]'hjs with
      | none =>
        have hs' : g.slots[j]? = some none := by rw [List.getElem?_eq_getElem hjs, hs]
        obtain ⟨hv, _⟩ := K.out.slots.none_at j hs'
        rw [List.getElem?_eq_getElem hjv] at hv
        rw [Option.some.inj hv] at cs
        have HL := Lib.hid (show g.liveTo (j + 1) = g.liveTo j by rw [Ga.liveTo, hs']; simp)
        clear hs hs' hv hR ht
        go_wp2
        go_roundw
        case rel => exact ⟨j + 1, m, ad, c, ho, rfl, by go_num, by omega, by rw [HL.out]; exact HM.out, by rw [HL.out]; exact HSl.out, HT.out⟩
        case measure => simp [intOf]; omega
      | some s =>
        have hs' : g.slots[j]? = some (some s) := by rw [List.getElem?_eq_getElem hjs, hs]
        obtain ⟨b, _, _, _, hv, _⟩ := K.out.slots.some_at j s hs'
        rw [List.getElem?_eq_getElem hjv] at hv
        rw [Option.some.inj hv] at cs
        have HL := Lib.hid (show g.liveTo (j + 1) = g.liveTo j ++ [g.ids[j]'hji] by rw [Ga.liveTo, hs']; simp [List.getD_eq_getElem?_getD, hji])
        obtain ⟨y, hy⟩ : ∃ y, y = g.ids[j]'hji := ⟨_, rfl⟩
        rw [← hy] at ci HL
        clear hs hs' hv hR ht hy
        go_wp2_with (at_builtin; go_loud (refine Own.wpList_append_one rfl _ _ 32 rfl 3 i0 (.int .i64 0) 8 Try.underlying32 Hi.out.1 Hi.out.2.1 Hi.out.2.2.1 Hi.out.2.2.2 rfl (.slice ad m c) (ints (g.liveTo j)) m ((List.length_map ..).trans HM.out.symm) ho (l.heap g) rfl HSl.out HT.out.has (.int .i64 (y : Int)) rfl rfl ?c1 ?c2 ?_))
        case c1 => simp only [maxLen]; omega
        case c2 => omega
        intro ad' c' h' w1 hs' ht'
        go_wp2
        go_roundw
        case rel =>
          refine ⟨j + 1, m + 1, ad', c', h', rfl, by go_num, by omega, by rw [HL.out, List.length_append, HM.out]; rfl, ?_, HT.out.trans ht'⟩
          rw [HL.out, show ints (g.liveTo j ++ [y]) = ints (g.liveTo j) ++ [.int .i64 (y : Int)] by simp [ints]]
          exact hs'
        case measure => simp [intOf]; omega
    · have hI : (g.n : Int) ≤ (j : Int) := by omega
      have HJ := Lib.hid (show j = g.n by omega)
      clear hR ht
      go_wp2
      go_ret
      have e1 : g.liveTo j = g.live := by rw [HJ.out]; exact Hlv.out.symm
      have e2 : m = g.live.length := by rw [HM.out, e1]
      have e3 := HSl.out
      rw [e1, e2] at e3
      first
      | exact ⟨ad, c, ho, by rw [e2]; rfl, e3, HT.out⟩
      | trace_state
end

theorem row_cells {e : TypeId} {xs : List Value} {v : Value} {h : Own.Heap} (s : Own.Slc e xs v h) (h0 : 0 < xs.length) : ∃ b o c, v = .slice (some ⟨b, o, none⟩) xs.length c ∧
    ∀ w, Own.Has w h → ∀ i (hi : i < xs.length), w.cell? ⟨b, o + i, none⟩ = some (xs[i]'hi) := by
  cases s with
  | bare a hx => subst hx; simp at h0
  | row b pre spare hm =>
    refine ⟨b, pre.length, _, rfl, fun w hw i hi => hw.cell b e _ (List.mem_singleton.2 rfl) (pre.length + i) _ ?_⟩
    rw [List.getElem?_append_right (by omega), Nat.add_sub_cancel_left, List.getElem?_append_left hi, List.getElem?_eq_getElem hi]

set_option maxHeartbeats 2000000 in
theorem same_any {xs ys : List Nat} {vx vy : Value} {hx hy : Own.Heap} (sx : Own.Slc 3 (ints xs) vx hx) (sy : Own.Slc 3 (ints ys) vy hy) {w : World} (hwx : Own.Has w hx) (hwy : Own.Has w hy) (h1 : xs.length ≤ 1000) :
    Calls Try.prog 19 #[vx, vy] w fun e w' => e = .returned (.bool (decide (xs = ys))) ∧ ∃ n, w' = w.drewN n := by
  have lx : (ints xs).length = xs.length := List.length_map ..
  have ly : (ints ys).length = ys.length := List.length_map ..
  by_cases hl : xs.length = ys.length
  · rcases Nat.eq_zero_or_pos xs.length with h0 | h0
    · obtain rfl : xs = [] := List.eq_nil_of_length_eq_zero h0
      obtain rfl : ys = [] := List.eq_nil_of_length_eq_zero (by omega)
      obtain ⟨ax, kx, rfl⟩ := sx.len
      obtain ⟨ay, ky, rfl⟩ := sy.len
      clear lx ly hl h0 sx sy hwx hwy h1
      go_enter Try.func19, Try.ntmps19
      go_wp2
      refine wp_loop_rounds 1 ?_
      rw [rounds_succ]
      go_wp2
      go_ret
      exact ⟨rfl, 0, rfl⟩
    · obtain ⟨bx, ox, kx, rfl, fx⟩ := row_cells sx (by omega)
      obtain ⟨by_, oy, ky, rfl, fy⟩ := row_cells sy (by omega)
      rw [lx, ly, ← hl]
      have Fx := Lib.hid (fun i (hi : i < xs.length) => show w.cell? ⟨bx, ox + i, none⟩ = some (.int .i64 ((xs[i]'hi : Nat) : Int)) by rw [fx _ hwx i (by omega)]; simp [ints])
      have Fy := Lib.hid (fun i (hi : i < ys.length) => show w.cell? ⟨by_, oy + i, none⟩ = some (.int .i64 ((ys[i]'hi : Nat) : Int)) by rw [fy _ hwy i (by omega)]; simp [ints])
      have HL := Lib.hid hl
      clear fx fy sx sy hwx hwy lx ly hl h0
      go_enter Try.func19, Try.ntmps19
      go_wp2
      go_loopw [5] (fun i wr => ∃ (j n : Nat), i = .int .i64 j ∧ j ≤ xs.length ∧ (∀ k, k < j → xs[k]? = ys[k]?) ∧ wr = w.drewN n) (fun i _ => xs.length - (intOf i).toNat)
      case atStart => exact ⟨0, 0, rfl, by omega, by intro k hk; omega, rfl⟩
      case round =>
        obtain ⟨j, n, rfl, hj, hq, rfl⟩ := hrel
        have HQ := Lib.hid hq
        clear hq
        by_cases hjl : j < xs.length
        · have hjy : j < ys.length := by have := HL.out; omega
          have cx := Fx.out j hjl
          have cy := Fy.out j hjy
          have hI : (j : Int) < (xs.length : Int) := by omega
          obtain ⟨x, hx'⟩ : ∃ x, x = xs[j]'hjl := ⟨_, rfl⟩
          obtain ⟨y, hy'⟩ : ∃ y, y = ys[j]'hjy := ⟨_, rfl⟩
          rw [← hx'] at cx
          rw [← hy'] at cy
          have HX := Lib.hid (show xs[j]? = some x by rw [List.getElem?_eq_getElem hjl, hx'])
          have HY := Lib.hid (show ys[j]? = some y by rw [List.getElem?_eq_getElem hjy, hy'])
          clear hx' hy' hjy
          by_cases hxy : x = y
          · have ht : ((x : Int) == (y : Int)) = true := by rw [hxy]; simp
            have E := Lib.hid hxy
            clear hxy
            go_wp2
            go_quiet (fail)
            go_wp2
            go_roundw
            case rel =>
              refine ⟨j + 1, _, by go_num, by omega, ?_, rfl⟩
              intro k hk
              rcases Nat.lt_or_ge k j with h2 | h2
              · exact HQ.out k h2
              · have h3 : k = j := by omega
                rw [h3, HX.out, HY.out, E.out]
            case measure => simp [intOf]; omega
          · have ht : ((x : Int) == (y : Int)) = false := by rw [beq_eq_false_iff_ne]; omega
            have E := Lib.hid hxy
            clear hxy
            go_wp2
            go_quiet (fail)
            go_wp2
            go_ret
            refine ⟨Own.ret_bool ?_, n + nq, by rw [World.drewN_drewN]⟩
            rw [decide_eq_false]
            intro e
            have h2 := HX.out
            rw [e, HY.out] at h2
            exact E.out (Option.some.inj h2).symm
        · have hI : (xs.length : Int) ≤ (j : Int) := by omega
          have HJ := Lib.hid (show xs.length ≤ j by omega)
          go_wp2
          go_ret
          refine ⟨Own.ret_bool ?_, _, rfl⟩
          rw [decide_eq_true]
          apply List.ext_getElem?
          intro k
          rcases Nat.lt_or_ge k j with h2 | h2
          · exact HQ.out k h2
          · rw [List.getElem?_eq_none (by have := HJ.out; omega), List.getElem?_eq_none (by have := HJ.out; have := HL.out; omega)]
  · obtain ⟨ax, kx, rfl⟩ := sx.len
    obtain ⟨ay, ky, rfl⟩ := sy.len
    rw [lx, ly]
    have ht : ((xs.length : Int) == (ys.length : Int)) = false := by rw [beq_eq_false_iff_ne]; omega
    have E := Lib.hid (show xs ≠ ys by rintro rfl; exact hl rfl)
    clear lx ly hl sx sy hwx hwy h1
    go_enter Try.func19, Try.ntmps19
    go_wp2
    go_ret
    exact ⟨Own.ret_bool (by rw [decide_eq_false E.out]), 0, rfl⟩
end Gate
end Go.Proofs.Ytpeimoknmlmppaa
