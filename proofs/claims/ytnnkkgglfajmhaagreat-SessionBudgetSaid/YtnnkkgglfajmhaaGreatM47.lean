/- Texts of the walk, joined. -/
import Derived.Test.YtnnkkgglfajmhaaGreatM27
import Derived.Test.YtnnkkgglfajmhaaGreatM43
import Derived.Test.YtnnkkgglfajmhaaGreatM45
import Derived.Test.YtnnkkgglfajmhaaGreatM46
import Derived.KernelRfl
set_option maxRecDepth 100000
set_option maxHeartbeats 8000000
namespace Go.Proofs.YtnnkkgglfajmhaaGreat
section
open Go.RowKit
namespace Ses
open Pip
def s1 : Setup := ⟨1, 3, 2, 9, 0⟩
def in1 : List UInt8 := [84, 82, 1, 3, 2, 0, 9, 0, 49]
def st1 : St := (St.new.feed in1 99).halve
def st2 : St := ⟨[], [75, 1, 255, 0], [84, 82, 1, 3, 2, 0, 9, 0], s1, true, none, true, true, 0⟩
theorem first_takes : St.new.takes in1 99 = 9 := by decide
theorem first_ready : st1.ready = true := by decide
theorem first_run (text : Json.Part → List UInt8) : st1.run text none 16 = (st2, 10) := by kernel_rfl
theorem first_left : st2.write (99 : Nat) = { st2 with out := [] } := rfl
theorem rput_any (w : World) : Calls Tryz.prog 18 #[s1.val] w fun e w' => e = .returned (.string ⟨#[84, 82, 1, 3, 2, 0, 9, 0]⟩) ∧ Below w.heap.size w w' := by
 have B0 := hhh (fun (o o' : Obj) => (((Below.refl w.heap.size w).alloc (Nat.le_refl _) o).alloc (by rw [Json.size_alloc]; omega) o' : Below w.heap.size w ((w.alloc o).alloc o')))
 have hcv : ∀ (k : Nat) (V : World), Own.Has V [Own.row k 5 [.int .u8 1, .int .u8 3, .int .u8 2, .int .u8 0, .int .u8 9, .int .u8 0]] → (convert 51 9 (.slice (some ⟨k, 0, none⟩) 6 6)).run Tryz.prog V = .ok (.string ⟨#[1, 3, 2, 0, 9, 0]⟩) V := fun k V h => by
  have s := Own.Slc.row (e := 5) (xs := u8s [1, 3, 2, 0, 9, 0]) k [] [] (by rw [u8s_length]; exact (by decide : 6 ≤ maxLen))
  rw [u8s_length] at s
  simp only [List.length_nil, Nat.add_zero, List.nil_append, List.append_nil] at s
  exact Own.Slc.run_string [1, 3, 2, 0, 9, 0] 51 9 Tryz.underlying51 Tryz.underlying5 Tryz.underlying9 s h
 have hcv1 := hcv (w.heap.size + 1) ((w.alloc (.cells #[.int .i64 1, .int .i64 3, .int .i64 2, .int .i64 9, .int .i64 0] 32)).alloc (.cells #[.int .u8 1, .int .u8 3, .int .u8 2, .int .u8 0, .int .u8 9, .int .u8 0] 5)) (((Own.Turn.refl (Own.Has.nil w)).litter _).allocRow (w.heap.size + 1) (by rw [Json.size_alloc]) 5 [.int .u8 1, .int .u8 3, .int .u8 2, .int .u8 0, .int .u8 9, .int .u8 0]).has
 clear hcv
 unfold Setup.val s1
 go_enter Tryz.func18, Tryz.ntmps18
 go_wp2
 go_ret
 exact ⟨rfl, B0.out _ _⟩
theorem alive23_any {T : Esc.Tabs} (w : World) (hT : Esc.TabsAt T w) : Calls Tryz.prog 7 #[] w fun r w' => r = .returned (.bool true) ∧ Below w.heap.size w w' := by
 have HP := hhh (fun u => rput_any u)
 unfold Setup.val s1 at HP
 simp only at HP
 have HT := hhh hT
 clear hT
 go_enter Tryz.func7, Tryz.ntmps7
 go_wp2_with (fail)
 refine (new_any _).mono ?_
 rintro r w1 ⟨sb, h0, rfl, i0, t0⟩
 have H0 := hhh (And.intro i0 t0)
 clear i0 t0
 go_wp2_with (fail)
 refine (HP.out _).mono ?_
 rintro r w2 ⟨rfl, b2⟩
 have H2 := hhh (H0.out.2.trans (Own.Turn.of_below H0.out.2.has b2))
 clear b2
 go_wp2_with (fail)
 have HF := feed_any H0.out.1 H2.out.has ((⟨#[84, 82, 1, 3, 2, 0, 9, 0]⟩ : ByteArray) ++ ⟨#[49]⟩) (by decide) 99
 rw [show ((⟨#[84, 82, 1, 3, 2, 0, 9, 0]⟩ : ByteArray) ++ ⟨#[49]⟩).data.toList = in1 by kernel_rfl, first_takes] at HF
 refine HF.mono ?_
 rintro r w3 ⟨rfl, h3, i3, t3⟩
 have H3 := hhh (And.intro i3 (H2.out.trans t3))
 clear i3 t3 HF
 have HH := half_any H3.out.1 H3.out.2.has
 rw [show (!((St.new.feed in1 99).half || (St.new.feed in1 99).ended)) = true from rfl] at HH
 go_wp2_with (fail)
 refine HH.mono ?_
 rintro r w4 ⟨rfl, h4, i4, t4⟩
 have H4 := hhh (And.intro (show Is st1 sb h4 from i4) (H3.out.2.trans t4))
 clear i4 t4 HH
 have HRd := ready_any H4.out.1 H4.out.2.has
 rw [first_ready] at HRd
 go_wp2_with (fail)
 refine HRd.mono ?_
 rintro r w5 ⟨rfl, rfl⟩
 clear HRd
 have bel : ∀ {h : Own.Heap} {u : World}, Own.Turn [] h w u → Below w.heap.size w u := fun {h u} t => t.below (B := w.heap.size) (fun x hx => by cases hx) (Nat.le_refl _)
 have Bel := @hhh _ @bel
 clear bel
 have HRn := run_nil H4.out.1 H4.out.2.has (((Good.new (T := T)).feed in1 99).halve) (by omega) (H4.out.2.least (fun x hx => by cases hx) HT.out.size) (HT.out.of ((Bel.out H4.out.2).mono HT.out.size))
 rw [first_run] at HRn
 go_wp2_with (fail)
 refine HRn.mono ?_
 rintro r w6 ⟨rfl, h6, i6, t6⟩
 have H6 := hhh (And.intro i6 (H4.out.2.trans t6))
 clear i6 t6 HRn
 go_wp2_with (fail)
 refine (ended_any H6.out.1 H6.out.2.has).mono ?_
 rintro r w7 ⟨rfl, m7, rfl⟩
 have HWr := write_any H6.out.1 (H6.out.2.has.drewN m7) 99 (by omega) (by decide)
 rw [first_left] at HWr
 go_wp2_with (fail)
 refine HWr.mono ?_
 rintro r w8 ⟨rfl, h8, i8, t8⟩
 have H8 := hhh (And.intro i8 ((H6.out.2.drewN m7).trans t8))
 clear i8 t8 HWr
 go_wp2_with (fail)
 refine (closed_any H8.out.1 H8.out.2.has).mono ?_
 rintro r w9 ⟨rfl, rfl⟩
 go_wp2_with (fail)
 refine (charge_any (T := T) (n := 16) H8.out.1 H8.out.2.has ⟨by decide, by decide, by decide, (fun h => by cases h), (fun _ h => by cases h), (fun _ => ⟨rfl, rfl⟩), (fun p h => by cases h)⟩ (by omega)).mono ?_
 rintro r w10 ⟨rfl, m10, rfl⟩
 go_wp2
 go_ret
 exact ⟨rfl, Bel.out (H8.out.2.drewN _)⟩
end Ses
end
end Go.Proofs.YtnnkkgglfajmhaaGreat
