/- The first calls at a gateway, whose answers are fixed: all are given. -/
import Derived.Test.YtpeimoknmlmppaaGateW
namespace Go.Proofs.Ytpeimoknmlmppaa
open Go.RowKit
namespace Gate
open Purse (ints)

theorem slc_two (b : Nat) (x y : Nat) : Own.Slc 3 (ints [x, y]) (.slice (some ⟨b, 0, none⟩) 2 2) [Own.row b 3 (ints [x, y])] := Own.Slc.row (e := 3) (xs := ints [x, y]) b [] [] (by simp [ints, maxLen])

theorem of_turn {h : Own.Heap} {u v : World} (t : Own.Turn [] h u v) : Below u.heap.size u v := t.below (fun x hx => by simp at hx) (Nat.le_refl _)

def TR : ByteArray := ⟨#[84, 82]⟩

set_option maxRecDepth 100000 in
set_option maxHeartbeats 4000000 in
theorem alive_any (w : World) : Calls Try.prog 7 #[] w fun e w' => e = .returned (.bool true) ∧ Below w.heap.size w w' := by
  have HN := Lib.hid (new_any 1400 2 (by omega) (by omega) (by omega) (by omega) w)
  have O0 := Lib.hid (Ga.Ok.new 1400 2 (by omega))
  go_enter Try.func7, Try.ntmps7
  go_wp2_with (fail)
  refine HN.out.mono ?_
  rintro e W1 ⟨l0, rfl, k0, t0⟩
  have HC1 := Lib.hid (connect_any k0 O0.out t0.has 0 rfl (fun j hj => by omega) (Nat.zero_le _) (Nat.zero_le _))
  have T0 := Lib.hid t0
  clear k0 t0 HN
  go_wp2_with (fail)
  refine HC1.out.mono ?_
  rintro e W2 ⟨rfl, l1, c1, k1, o1, e1, t1⟩
  have hne1 : ∀ j, j < 1 → ((Ga.new 1400 2).begin_ 0 c1).slots[j]? ≠ some none := by
    intro j hj
    obtain rfl : j = 0 := by omega
    intro hh
    have hh2 : (some (some Se.new) : Option (Option Se)) = some none := hh
    cases hh2
  have HC2 := Lib.hid (connect_any k1 o1 t1.has 1 rfl hne1 (by show 1 ≤ 800; omega) (by show 1 ≤ 400; omega))
  clear hne1
  rw [show (1 + (Ga.begin_ (Ga.new 1400 2) 0 c1).n * (Ga.begin_ (Ga.new 1400 2) 0 c1).many : Nat) = 3 from rfl, e1] at HC2
  have T1 := Lib.hid (T0.out.trans t1)
  clear k1 o1 t1 HC1 O0 T0
  rw [show (0 + (Ga.new 1400 2).n * (Ga.new 1400 2).many : Nat) = 0 from rfl]
  go_wp2_with (fail)
  refine HC2.out.mono ?_
  rintro e W3 ⟨rfl, l2, c2, k2, o2, e2, t2⟩
  obtain ⟨g, hg⟩ : ∃ g, g = (Ga.begin_ (Ga.new 1400 2) 0 c1).begin_ 1 c2 := ⟨_, rfl⟩
  have S0 : g.slots = [some Se.new, some Se.new] := by rw [hg]; rfl
  have S1 : g.ids = [0, 3] := by rw [hg]; rfl
  have S2 : g.n = 2 := by rw [hg]; rfl
  have S3 : g.pu.has.sum = 4 := by rw [hg]; rfl
  have S4 : g.pu.rest = 0 := by rw [hg]; rfl
  have S5 : g.live = [0, 3] := by rw [hg]; rfl
  rw [← hg] at k2 o2 t2
  have T2 := T1.out.trans t2
  have hgb : l2.gb = l0.gb := e2
  have HF3 := Lib.hid (full_connect k2 T2.has (by intro j; rw [S0]; match j with | 0 => simp | 1 => simp | j + 2 => simp))
  have HT4 := Lib.hid (total_any k2 T2.has)
  have HL5 := Lib.hid (live_any k2 T2.has)
  have hfind : g.find 3 = some 1 := by unfold Ga.find; rw [S0, S1, S2]; rfl
  have HC7 := Lib.hid (fun W (hW : Own.Has W (l2.heap g)) => chunk_any k2 o2 hW 3 TR (by decide) 1 hfind Se.new (by rw [S0]; rfl))
  rw [S4, hgb, show (Se.new.takes TR.data.toList (700 - Se.new.charge + 0) : Nat) = 2 from rfl] at HC7
  rw [S3, hgb] at HT4
  rw [S5, hgb] at HL5
  rw [hgb] at HF3
  have TT2 := Lib.hid T2
  have SS := Lib.hid (And.intro S0 (And.intro S1 (And.intro S2 (And.intro hgb S4))))
  clear hg S0 S1 S2 S3 S4 S5 T2 k2 o2 t2 e2 e1 HC2 T1 hfind hgb
  go_wp2_with (fail)
  refine HF3.out.mono ?_
  rintro e W4 ⟨rfl, rfl⟩
  go_wp2_with (fail)
  refine HT4.out.mono ?_
  rintro e W4 ⟨rfl, rfl⟩
  go_wp2_with (fail)
  refine HL5.out.mono ?_
  rintro e W5 ⟨ad, c, ho, rfl, hs, t5⟩
  replace hs : Own.Slc 3 (ints [0, 3]) (.slice ad 2 c) ho := hs
  have t6 : Own.Turn (l2.heap g) (l2.heap g) _ (W5.alloc (.cells #[.int .i64 0, .int .i64 3] 3)) := t5.forget.litter _
  have t7 := t5.allocAt _ rfl (.cells #[.int .i64 0, .int .i64 3] 3)
  have HS6 := Lib.hid (same_any hs (slc_two W5.heap.size 0 3) (Own.Has.left (b := l2.heap g) (Own.Has.right (a := [_]) t7.has)) (Own.Has.left (a := [_]) t7.has) (by decide))
  rw [show decide ([0, 3] = [0, 3]) = true from rfl] at HS6
  have T6 := Lib.hid t6
  clear hs t5 t6 t7 HL5
  go_wp2_with (fail)
  refine HS6.out.mono ?_
  rintro e W6 ⟨rfl, n6, rfl⟩
  have t8 := TT2.out.trans (T6.out.drewN n6)
  have HC8 := Lib.hid (HC7.out _ t8.has)
  have T8 := Lib.hid t8
  clear HC7 t8 HS6 T6
  go_wp2_with (fail)
  refine HC8.out.mono ?_
  rintro e W7 ⟨rfl, l3, g3, k3, o3, h3, like, e3, t9⟩
  have R0 : g3.slots = [some Se.new, some (Se.new.feed TR.data.toList (700 - Se.new.charge + 0))] := by rw [h3, SS.out.1]; rfl
  have R1 : g3.find 3 = some 1 := by unfold Ga.find; rw [R0, like.ids, like.n, SS.out.2.1, SS.out.2.2.1]; rfl
  have R2 : g3.told (g3.find 3) = 4 := by
    rw [R1]
    show g3.pu.has.getD 1 0 = 4
    rw [List.getD_eq_getElem?_getD, o3.has_at 1 _ (by rw [R0]; rfl)]
    rfl
  have t10 := T8.out.trans t9
  have HCh := Lib.hid (chargeOf_any k3 o3 t10.has 3)
  rw [R2, e3] at HCh
  have HB := Lib.hid (of_turn t10)
  clear k3 o3 h3 like e3 t9 R0 R1 R2 t10 HC8 T8
  go_wp2_with (fail)
  refine HCh.out.mono ?_
  rintro e W8 ⟨rfl, rfl⟩
  go_wp2
  go_ret
  exact ⟨rfl, HB.out⟩
end Gate
end Go.Proofs.Ytpeimoknmlmppaa
