/- Texts of the walk, joined. -/
import Derived.Test.YtnnkkgglfajmhaaGreatM09
import Derived.Test.YtnnkkgglfajmhaaGreatM43
import Derived.Test.YtnnkkgglfajmhaaGreatM44
import Derived.Handy
set_option maxRecDepth 100000
set_option maxHeartbeats 8000000
namespace Go.Proofs.YtnnkkgglfajmhaaGreat
section
open Go.RowKit
namespace Ses
open Pip
theorem cat_toList (a b : ByteArray) : (a ++ b).data.toList = a.data.toList ++ b.data.toList := by
 rw [ByteArray.data_append, Array.toList_append]
theorem greet_eq (s : St) (b : UInt8) (O : Setup × Nat) (hO : O = helloGet (s.header ++ [b])) :
  (O.2 = 3 → s.greet b = { s with header := s.header ++ [b] }) ∧ (O.2 = 0 → s.greet b = { s with header := s.header ++ [b], setup := O.1, told := true, p := some (Pp.new O.1), out := s.out ++ [75] }) ∧
   (O.2 ≠ 3 → O.2 ≠ 0 → s.greet b = ({ s with header := s.header ++ [b] } : St).stop O.2 false) := by
 subst hO
 unfold St.greet
 dsimp only
 refine ⟨fun h => if_pos h, fun h => ?_, fun h1 h2 => ?_⟩
 ·rw [if_neg (by rw [h]; decide), if_pos h]
 ·rw [if_neg h1, if_neg h2]
section
variable {T : Esc.Tabs} {n : Nat} {s : St} {sb rb bb : Nat} {r : Ring.St} {lv pv : Value} {hq hp h : Own.Heap} {w : World}
theorem once_greet (i : Is s sb h) (hw : Own.Has w h) (g : s.Good T n) (hn : n ≤ 2600) (b : UInt8) (l : List UInt8) (hi : s.inb = b :: l) (ht : s.told = false) :
  Calls Tryz.prog 27 #[.pointer (some ⟨sb, 0, none⟩)] w fun r w' => (∃ v, r = .returned v) ∧ ∃ h', Is (({ s with inb := l } : St).greet b) sb h' ∧ Own.Turn h h' w w' := by
 obtain ⟨rb, bb, r, lv, pv, hq, hp, a, rfl⟩ := i
 have HTk := hhh (take_one a hw)
 have hPI := a.p
 rw [g.early ht] at hPI
 obtain ⟨rfl, rfl⟩ := hPI
 have c0 := hw.cell sb 48 _ mcs 0 _ rfl
 obtain ⟨S, hS⟩ : ∃ S : ByteArray, S = ⟨(s.inb.take 1).toArray⟩ := ⟨_, rfl⟩
 have e0 := empty_off (S := S) (by rw [hS, hi]; simp)
 rw [← hS] at HTk
 have hz : S.size = 1 := by rw [hS, hi]; rfl
 have hSl : S.data.toList = [b] := by rw [hS, hi]; rfl
 obtain ⟨H, hH⟩ : ∃ H : ByteArray, H = ⟨s.header.toArray⟩ := ⟨_, rfl⟩
 have hHl : H.data.toList = s.header := by rw [hH]
 have hHz : H.size ≤ 3000 := by
  have := g.head
  rw [← hHl] at this
  have q : H.data.toList.length = H.size := Array.length_toList
  omega
 have hcat : (H ++ S).data.toList = s.header ++ [b] := by rw [cat_toList, hHl, hSl]
 have hcatE : (H ++ S) = ⟨(s.header ++ [b]).toArray⟩ := by
  apply ByteArray.ext
  apply Array.toList_inj.1
  rw [hcat]
 have HG := hhh (fun W => get_any (H ++ S) W)
 rw [hcat] at HG
 obtain ⟨O, hO⟩ : ∃ O, O = helloGet (s.header ++ [b]) := ⟨_, rfl⟩
 have HGr := hhh (greet_eq ({ s with inb := l } : St) b O hO)
 have hgood : O.2 = 0 → right O.1 = true := by rw [hO]; exact fun h => (get_good _ h).2.1
 rw [← hO] at HG
 have HO := hhh (And.intro hO (And.intro hcatE (And.intro hH hgood)))
 have HL := hhh (show s.inb.drop 1 = l by rw [hi]; rfl)
 have ho : s.out.length ≤ 999999999980 := by have := g.out; omega
 have Ho := hhh ho
 clear hw a hS hH hi hcatE hcat hHl hSl hgood hO g ho hn
 obtain ⟨su, e2⟩ := O
 obtain ⟨v, hv⟩ : ∃ v, v = ({ s with inb := l } : St).greet b := ⟨_, rfl⟩
 rw [← hv] at HGr ⊢
 clear hv
 have HNew := hhh (fun (h0 : e2 = 0) (W : World) => Pip.new_any su (HO.out.2.2.2 h0) W)
 simp only [Setup.val] at HG HNew
 go_enter Tryz.func27, Tryz.ntmps27
 go_wp2_with (fail)
 refine HTk.out.mono ?_
 rintro e w1 ⟨rfl, r', a1, t1⟩
 have c9 := t1.has.cell sb 48 _ mcs 9 _ rfl
 have c3 := t1.has.cell sb 48 _ mcs 3 _ rfl
 have f3 := t1.has.free sb 48 _ mcs 3
 rw [ht] at c9
 rw [show Value.string ⟨s.header.toArray⟩ = .string H by rw [HO.out.2.2.1]] at c3
 have T1 := hhh (show Own.Turn _ (row0 ({ s with inb := l, header := s.header ++ [b] } : St) sb rb lv (.pointer none) :: (hq ++ (Ring.heap r' rb bb ++ []))) w (w1.setCell ⟨sb, 3, none⟩ (.string (H ++ S))) by
  have t2 := t1.set 3 (.string ⟨(s.header ++ [b]).toArray⟩) (by simp [post])
  rw [HO.out.2.1]
  exact t2)
 have A1 := hhh (show At ({ s with inb := l, header := s.header ++ [b] } : St) sb rb bb r' lv (.pointer none) hq [] from ⟨a1.f, a1.l, a1.a.trans HL.out, a1.q, a1.p⟩)
 clear a1 t1 HTk ht
 go_wp2_with (fail)
 refine (HG.out _).mono ?_
 rintro e w2 ⟨rfl, b2⟩
 have T2 := hhh ((T1.out.trans (Own.Turn.of_below T1.out.has b2)).litter (.cells #[.int .i64 su.from_, .int .i64 su.to, .int .i64 su.depth, .int .i64 su.stage, .int .i64 su.limit] 32))
 have T5 := hhh ((T1.out.trans (Own.Turn.of_below T1.out.has b2)).allocRow w2.heap.size rfl 32 [.int .i64 su.from_, .int .i64 su.to, .int .i64 su.depth, .int .i64 su.stage, .int .i64 su.limit])
 clear b2 HG
 by_cases h3 : e2 = 3
 ·have HR := hhh (HGr.out.1 h3)
  subst h3
  go_wp2
  go_end0
  exact ⟨⟨_, rfl⟩, _, HR.out.symm ▸ ⟨rb, bb, r', lv, .pointer none, hq, [], A1.out, rfl⟩, T2.out⟩
 have h3b : ((e2 : Int) == 3) = false := by rw [beq_eq_false_iff_ne]; omega
 by_cases h0 : e2 = 0
 ·have HR := hhh (HGr.out.2.1 h0)
  have HN := hhh (HNew.out h0)
  subst h0
  have T3 := hhh T5.out.drew
  have k0 := T5.out.has.cell w2.heap.size _ _ mcs 0 _ rfl
  have k1 := T5.out.has.cell w2.heap.size _ _ mcs 1 _ rfl
  have k2 := T5.out.has.cell w2.heap.size _ _ mcs 2 _ rfl
  have k3 := T5.out.has.cell w2.heap.size _ _ mcs 3 _ rfl
  have k4 := T5.out.has.cell w2.heap.size _ _ mcs 4 _ rfl
  clear HNew h3 HGr
  go_wp2_with (fail)
  go_region_with (first | (go_at_call 40; refine (HN.out _).mono ?_; rintro e w3 ⟨pb, hp3, rfl, ip, t3⟩; have T4 := hhh (T3.out.trans (Own.Turn.cons (turn_pipe t3 (T3.out.has.right (a := [_]))) T3.out.has)); have IP := hhh ip; clear ip t3; have cell := fun j v hj => T4.out.has.cell sb 48 _ (mcm _ mcs) j v hj; have d4 := cell 4 _ rfl; have d5 := cell 5 _ rfl; have d6 := cell 6 _ rfl; have d7 := cell 7 _ rfl; have d8 := cell 8 _ rfl; have d9 := cell 9 _ rfl; have d10 := cell 10 _ rfl; have f4 := T4.out.has.free sb 48 _ (mcm _ mcs) 4; have f5 := T4.out.has.free sb 48 _ (mcm _ mcs) 5; have f6 := T4.out.has.free sb 48 _ (mcm _ mcs) 6; have f7 := T4.out.has.free sb 48 _ (mcm _ mcs) 7; have f8 := T4.out.has.free sb 48 _ (mcm _ mcs) 8; have f9 := T4.out.has.free sb 48 _ (mcm _ mcs) 9; have f10 := T4.out.has.free sb 48 _ (mcm _ mcs) 10; have j0 := T4.out.has.cell w2.heap.size _ _ mcs 0 _ rfl; have j1 := T4.out.has.cell w2.heap.size _ _ mcs 1 _ rfl; have j2 := T4.out.has.cell w2.heap.size _ _ mcs 2 _ rfl; have j3 := T4.out.has.cell w2.heap.size _ _ mcs 3 _ rfl; have j4 := T4.out.has.cell w2.heap.size _ _ mcs 4 _ rfl; clear cell))
  all_goals
   have T6 := hhh (show Own.Turn _ (row0 ({ s with inb := l, header := s.header ++ [b], setup := su, told := true, p := some (Pp.new su) } : St) sb rb lv (.pointer (some ⟨pb, 0, none⟩)) :: (hq ++ (Ring.heap r' rb bb ++ hp3))) w _ from ((((((((Own.Turn.forget (b := [_]) T4.out).set 4 (.int .i64 su.from_) (by simp [post])).set 5 (.int .i64 su.to) (by simp [post])).set 6 (.int .i64 su.depth) (by simp [post])).set 7 (.int .i64 su.stage) (by simp [post])).set 8 (.int .i64 su.limit) (by simp [post])).set 9 (.bool true) (by simp [post])).set 10 (.pointer (some ⟨pb, 0, none⟩)) (by simp [post])).drew)
   clear d4 d5 d6 d7 d8 d9 d10 f4 f5 f6 f7 f8 f9 f10 j0 j1 j2 j3 j4
   have HY := hhh (fun W => yes_any W)
   have HA := hhh (Queue.add_any (has_queue T6.out.has) A1.out.q 1 rfl ⟨#[75]⟩ (by have := Ho.out; show s.out.length + 1 ≤ 1000000000000; omega))
   go_wp2_with (fail)
   go_region_with (first | (go_at_call 41; refine (HY.out _).mono ?_; rintro e1 W1 ⟨rfl, rfl⟩) | (go_at_call 37; refine HA.out.mono ?_; rintro e2 W2 ⟨⟨v2, rfl⟩, lv', hq', q', t2⟩; have T7 := hhh (T6.out.trans (turn_queue t2 T6.out.has)); have Q2 := hhh q'; clear t2 q'))
   all_goals
    go_wp2
    go_end0
    exact ⟨⟨_, rfl⟩, _, HR.out.symm ▸ ⟨rb, bb, r', lv', .pointer (some ⟨pb, 0, none⟩), hq', hp3, ⟨A1.out.f, A1.out.l, A1.out.a, Q2.out, pb, rfl, IP.out⟩, rfl⟩, T7.out⟩
 ·have HR := hhh (HGr.out.2.2 h3 h0)
  have h0b : ((e2 : Int) == 0) = false := by rw [beq_eq_false_iff_ne]; omega
  have HE := hhh (end_any (s := ({ s with inb := l, header := s.header ++ [b] } : St)) ⟨rb, bb, r', lv, .pointer none, hq, [], A1.out, rfl⟩ T2.out.has e2 false (by have := Ho.out; show s.out.length ≤ _; omega))
  clear h3 h0 HNew HGr
  go_wp2_with (fail)
  refine HE.out.mono ?_
  rintro e w4 ⟨⟨v, rfl⟩, h', i', t'⟩
  have H := hhh (And.intro i' (T2.out.trans t'))
  clear i' t' HE
  go_wp2
  go_end0
  exact ⟨⟨_, rfl⟩, h', HR.out.symm ▸ H.out.1, H.out.2⟩
end
end Ses
end
section
open Go.RowKit
namespace Ses
open Pip
section
variable {T : Esc.Tabs} {n : Nat} {s : St} {sb : Nat} {h : Own.Heap} {w : World}
theorem once_any (i : Is s sb h) (hw : Own.Has w h) (g : s.Good T n) (hn : n ≤ 2600) (he : s.ended = false) (hB : ∀ x ∈ Own.blocks h, Esc.tabsEnd ≤ x) (hT : Esc.TabsAt T w) :
  Calls Tryz.prog 27 #[.pointer (some ⟨sb, 0, none⟩)] w fun r w' => (∃ v, r = .returned v) ∧ ∃ h', Is (s.once (textT T)) sb h' ∧ Own.Turn h h' w w' := by
 cases hi : s.inb with
 | nil =>
  cases ht : s.told with
  | false =>
   rw [show s.once (textT T) = s.stop 3 false by unfold St.once; rw [hi, ht]]
   exact once_more i hw (by have := g.out; omega) hi ht
  | true =>
   obtain ⟨p, hp⟩ := g.late ht he
   rw [show s.once (textT T) = ({ s with out := s.out ++ (p.fin (textT T)).2.1 } : St).stop (p.fin (textT T)).2.2 true by unfold St.once; rw [hi, ht, hp]]
   exact once_fin i hw g hn hB hT hi ht p hp
 | cons b l =>
  cases ht : s.told with
  | false =>
   rw [show s.once (textT T) = ({ s with inb := l } : St).greet b by unfold St.once; rw [hi, ht]]
   exact once_greet i hw g hn b l hi ht
  | true =>
   obtain ⟨p, hp⟩ := g.late ht he
   rw [show s.once (textT T) = ({ s with inb := l } : St).byte (textT T) p b by unfold St.once; rw [hi, ht, hp]]
   exact once_step i hw g hn hB hT b l hi ht p hp
theorem run_on (text : Json.Part → List UInt8) (may : Option (Int → Bool)) (k : Nat) (s : St) (h : s.ready = true) : s.run text may (k + 1) = (((s.paid text may).run text may k).1, ((s.paid text may).run text may k).2 + 1) := by
 rw [St.run, if_pos h]
theorem run_off (text : Json.Part → List UInt8) (may : Option (Int → Bool)) (k : Nat) (s : St) (h : k = 0 ∨ s.ready = false) : s.run text may k = (s, 0) := by
 cases k with
 | zero => rfl
 | succ k =>
  rcases h with h | h
  ·cases h
  ·rw [St.run, if_neg (by rw [h]; decide)]
structure Ran (T : Esc.Tabs) (may : Option (Int → Bool)) (n : Nat) (s t : St) (k : Nat) : Prop where
 le : k ≤ 16
 left : s.run (textT T) may 16 = ((t.run (textT T) may (16 - k)).1, (t.run (textT T) may (16 - k)).2 + k)
 good : t.Good T (n + k)
theorem Ran.start {may : Option (Int → Bool)} (g : s.Good T n) : Ran T may n s s 0 := ⟨by omega, rfl, g⟩
theorem Ran.on {may : Option (Int → Bool)} {t : St} {k : Nat} (r : Ran T may n s t k) (hn : n ≤ 2500) (hk : k < 16) (h : t.ready = true) : Ran T may n s (t.paid (textT T) may) (k + 1) := by
 refine ⟨by omega, ?_, ?_⟩
 ·rw [r.left, show 16 - k = (16 - (k + 1)) + 1 by omega, run_on _ _ _ _ h]
  simp only [Nat.add_assoc, Nat.add_comm 1 k]
 ·exact paid_good r.good (by omega) (ready_on h) may
theorem Ran.off {may : Option (Int → Bool)} {t : St} {k : Nat} (r : Ran T may n s t k) (h : k = 16 ∨ t.ready = false) : s.run (textT T) may 16 = (t, k) := by
 rw [r.left, run_off _ _ _ _ (by rcases h with h | h; exact .inl (by omega); exact .inr h)]
 simp
theorem paid_free (text : Json.Part → List UInt8) (s : St) : s.paid text none = s.once text := by
 unfold St.paid refused; rfl
theorem run_nil (i : Is s sb h) (hw : Own.Has w h) (g : s.Good T n) (hn : n ≤ 2500) (hB : ∀ x ∈ Own.blocks h, Esc.tabsEnd ≤ x) (hT : Esc.TabsAt T w) :
  Calls Tryz.prog 13 #[.pointer (some ⟨sb, 0, none⟩), .nilFunc] w fun e w' => e = .returned (.int .i64 ((s.run (textT T) none 16).2 : Int)) ∧ ∃ h', Is (s.run (textT T) none 16).1 sb h' ∧ Own.Turn h h' w w' := by
 have qF : ∀ W, (binOp .neq 35 .nilFunc .nilFunc).run Tryz.prog W = .ok (.bool false) W := fun W => by kernel_rfl
 have HB := hhh (And.intro hB (And.intro hT hn))
 have R0 := hhh (Ran.start (T := T) (may := none) g)
 have I0 := hhh i
 have T0 := hhh (Own.Turn.refl hw)
 obtain ⟨O, hO⟩ : ∃ O, O = s.run (textT T) none 16 := ⟨_, rfl⟩
 rw [← hO]
 have HO := hhh hO
 clear i hw g hn hB hT hO
 go_enter Tryz.func13, Tryz.ntmps13
 go_wp2
 go_loopw [5] (fun x wr => ∃ (k : Nat) (t : St) (h' : Own.Heap), x = .int .i64 k ∧ Ran T none n s t k ∧ Is t sb h' ∧ Own.Turn h h' w wr) (fun x _ => 16 - (intOf x).toNat)
 case atStart => exact ⟨0, s, h, rfl, R0.out, I0.out, T0.out⟩
 case round =>
  obtain ⟨k, t, h', rfl, R, i, tt⟩ := hrel
  have hk := R.le
  have HRd := hhh (ready_any i tt.has)
  have H := hhh (And.intro R (And.intro i tt))
  by_cases hk16 : k = 16
  ·have HOk := hhh (R.off (.inl hk16))
   subst hk16
   clear R i tt hk
   go_wp2
   go_ret
   have e1 : O = (t, 16) := HO.out.trans HOk.out
   exact ⟨by rw [e1]; rfl, h', by rw [e1]; exact H.out.2.1, H.out.2.2⟩
  have hk2 : k < 16 := by omega
  cases hr : t.ready with
  | false =>
   have HOk := hhh (R.off (.inr hr))
   rw [hr] at HRd
   clear R i tt hk hk16 hr
   go_wp2_with (fail)
   refine HRd.out.mono ?_
   rintro e W1 ⟨rfl, rfl⟩
   go_wp2
   go_ret
   have e1 : O = (t, k) := HO.out.trans HOk.out
   exact ⟨by rw [e1]; rfl, h', by rw [e1]; exact H.out.2.1, H.out.2.2⟩
  | true =>
   rw [hr] at HRd
   have HQL := hhh (fun m => (show Calls Tryz.prog 23 #[.pointer (some ⟨sb, 1, none⟩)] (wr.drewN m) fun e w' => e = .returned (.int .i64 (t.out.length : Int)) ∧ w' = wr.drewN m by
    obtain ⟨rb, bb, r, lv, pv, hq, hp, a, rfl⟩ := i
    exact Queue.len_any (tt.has.drewN m) mcs 1 rfl))
   have c9 : wr.cell? ⟨sb, 9, none⟩ = some (.bool t.told) := by
    obtain ⟨rb, bb, r, lv, pv, hq, hp, a, rfl⟩ := i
    exact tt.has.cell sb 48 _ mcs 9 _ rfl
   have HOn := hhh (fun m => once_any i (tt.has.drewN m) R.good (by have := HB.out.2.2; omega) (ready_on hr) (tt.least HB.out.1 HB.out.2.1.size) (HB.out.2.1.of ((tt.drewN m).below HB.out.1 HB.out.2.1.size)))
   have HR := hhh (R.on HB.out.2.2 hk2 hr)
   rw [paid_free] at HR
   clear R i tt hk hk16 hr
   go_wp2_with (fail)
   refine HRd.out.mono ?_
   rintro e W1 ⟨rfl, rfl⟩
   go_wp2_with (fail)
   go_quiet (exact Calls.quiet_of_same (HQL.out _))
   go_wp2_with (fail)
   refine (HOn.out _).mono ?_
   rintro e W2 ⟨⟨v, rfl⟩, h2, i2, t2⟩
   have H2 := hhh (And.intro i2 ((H.out.2.2.drewN _).trans t2))
   clear i2 t2 HOn HQL HRd
   go_wp2
   go_roundw
   case rel => exact ⟨k + 1, _, h2, by congr 1, HR.out, H2.out.1, H2.out.2⟩
   case measure => simp [intOf]; omega
end
end Ses
end
section
namespace Ses
open Pip
open Json (Part)
def fresh (l : List UInt8) : St := { St.new with inb := l }
theorem fresh_feed (l b : List UInt8) (room : Int) : (fresh l).feed b room = fresh (l ++ b.take ((fresh l).takes b room)) := rfl
theorem fresh_takes (l b : List UInt8) (room : Int) : (fresh l).takes b room = min (min b.length room.toNat) (64 - l.length) := rfl
theorem fresh_charge (l : List UInt8) : (fresh l).charge = l.length + 2 := rfl
theorem fresh_ready (l : List UInt8) : (fresh l).ready = decide (0 < l.length) := by
 unfold St.ready fresh St.new; simp
theorem fresh_good (T : Esc.Tabs) (l : List UInt8) (h : l.length ≤ 64) : (fresh l).Good T 0 :=
 ⟨h, Nat.zero_le _, Nat.zero_le _, fun _ => rfl, (fun h => by cases h), (fun h => by cases h), (fun p h => by cases h)⟩
theorem takes_int (m l : Nat) (q : Int) (hl : l ≤ 64) : ((min (min m q.toNat) (64 - l) : Nat) : Int) = max (min (min (m : Int) (64 - (l : Int))) q) 0 := by omega
theorem charge_on {s : St} (h : s.ended = false) : s.charge = s.inb.length + s.out.length + (heldO s.p + 2) := by
 unfold St.charge; rw [h]; rfl
theorem charge_stop (s : St) (e : Nat) (told : Bool) : (s.stop e told).charge = s.out.length + 2 := by
 show 0 + (s.out ++ [_, _]).length + 0 = _
 rw [List.length_append]
 simp
theorem paid_yes (text : Part → List UInt8) (f : Int → Bool) (s : St) (h : f ((s.once text).charge : Int) = true) : s.paid text (some f) = s.once text := by
 unfold St.paid refused
 simp only
 rw [if_neg (by simp [h])]
theorem paid_no (text : Part → List UInt8) (f : Int → Bool) (s : St) (h : f ((s.once text).charge : Int) = false) : s.paid text (some f) = ({ s.once text with out := (s.once text).out.take s.out.length } : St).stop 11 s.told := by
 unfold St.paid refused
 simp only
 rw [if_pos (by simp [h])]
theorem ready_out {s : St} (h : s.ready = true) : s.out.length < 64 := by
 unfold St.ready at h
 simp only [Bool.and_eq_true, decide_eq_true_eq] at h
 exact h.1.2
theorem paid_charge (text : Part → List UInt8) (most : Int) (s : St) (hr : s.ready = true) (h : (s.charge : Int) ≤ most) : ((s.paid text (some fun z => decide (z ≤ most))).charge : Int) ≤ most := by
 cases hx : (fun z => decide (z ≤ most)) ((s.once text).charge : Int) with
 | true => rw [paid_yes text _ s hx]; simpa using hx
 | false =>
  rw [paid_no text _ s hx, charge_stop]
  rw [charge_on (ready_on hr)] at h
  have : (List.take s.out.length (s.once text).out).length ≤ s.out.length := by rw [List.length_take]; omega
  simp only at *
  omega
theorem run_charge (text : Part → List UInt8) (most : Int) : ∀ (k : Nat) (s : St), (s.charge : Int) ≤ most → ((s.run text (some fun z => decide (z ≤ most)) k).1.charge : Int) ≤ most
 | 0, _, h => h
 | k + 1, s, h => by
  unfold St.run
  split
  ·rename_i hr
   exact run_charge text most k _ (paid_charge text most s hr h)
  ·exact h
def Last (s : St) : Prop := s.ended = true → ∃ pre x, s.out = pre ++ [x, UInt8.ofNat s.e]
theorem last_stop (s : St) (e : Nat) (told : Bool) : Last (s.stop e told) := fun _ => ⟨s.out, _, rfl⟩
theorem last_on {s : St} (h : s.ended = false) : Last s := fun h2 => by rw [h] at h2; cases h2
theorem once_last (text : Part → List UInt8) (s : St) (he : s.ended = false) : Last (s.once text) := by
 unfold St.once
 split
 ·exact last_stop _ _ _
 ·exact last_stop _ _ _
 ·unfold St.byte
  simp only
  split
  ·exact last_stop _ _ _
  ·exact last_on he
 ·unfold St.greet
  simp only
  split
  ·exact last_on he
  ·split
   ·exact last_on he
   ·exact last_stop _ _ _
 ·exact last_on he
theorem paid_last (text : Part → List UInt8) (may : Option (Int → Bool)) (s : St) (he : s.ended = false) : Last (s.paid text may) := by
 unfold St.paid
 split
 ·exact last_stop _ _ _
 ·exact once_last text s he
theorem run_last (text : Part → List UInt8) (may : Option (Int → Bool)) : ∀ (k : Nat) (s : St), Last s → Last (s.run text may k).1
 | 0, _, h => h
 | k + 1, s, h => by
  unfold St.run
  split
  ·rename_i hr
   exact run_last text may k _ (paid_last text may s (ready_on hr))
  ·exact h
theorem write_charge (s : St) (n : Nat) : (s.write (n : Int)).charge + (s.out.take n).length = s.charge := by
 unfold St.charge St.write
 simp only [Int.toNat_natCast, List.length_drop, List.length_take]
 omega
theorem closed_charge {T : Esc.Tabs} {n : Nat} {s : St} (g : s.Good T n) (h : s.closed = true) : s.charge = 0 := by
 unfold St.closed at h
 simp only [Bool.and_eq_true, List.isEmpty_iff] at h
 unfold St.charge
 rw [h.1, h.2, (g.over h.1).2]
 rfl
theorem charge_ended {s : St} (h : s.ended = true) : s.charge = s.inb.length + s.out.length := by
 unfold St.charge; rw [h]; rfl
theorem write_closed {s : St} (h : s.ended = true) (n : Nat) (hn : s.out.length ≤ n) : (s.write (n : Int)).closed = true := by
 unfold St.closed St.write
 simp only [Int.toNat_natCast, h, Bool.true_and, List.isEmpty_iff]
 exact List.drop_of_length_le hn
end Ses
end
section
open Go.RowKit
namespace Ses
open Pip
section
variable {T : Esc.Tabs} {n : Nat} {s : St} {sb : Nat} {h : Own.Heap} {w : World}
theorem cut_ses (i : Is s sb h) (hw : Own.Has w h) (n : Nat) (hn : n ≤ 10000) (ho : s.out.length ≤ 1000000000000) :
  Calls Tryz.prog 28 #[.pointer (some ⟨sb, 1, none⟩), .int .i64 (n : Int)] w fun e w' => (∃ v, e = .returned v) ∧ ∃ h', Is { s with out := s.out.take n } sb h' ∧ Own.Turn h h' w w' := by
 obtain ⟨rb, bb, r, lv, pv, hq, hp, a, rfl⟩ := i
 refine (Queue.cut_any (has_queue hw) a.q 1 rfl n hn ho).mono ?_
 rintro e W ⟨hv, lv', hq', q', t⟩
 exact ⟨hv, _, ⟨rb, bb, r, lv', pv, hq', hp, ⟨a.f, a.l, a.a, q', a.p⟩, rfl⟩, turn_queue t hw⟩
theorem run_may {c : Own.Heap} (i : Is s sb h) (hw : Own.Has w (h ++ c)) (g : s.Good T n) (hn : n ≤ 2500) (hB : ∀ x ∈ Own.blocks (h ++ c), Esc.tabsEnd ≤ x) (hT : Esc.TabsAt T w)
  (cap : Value) (f : Int → Bool) (HK : ∀ (W : World) (z : Nat), Own.Has W c → z ≤ 1000000000000 → Calls Tryz.prog 15 #[.int .i64 (z : Int), cap] W fun e w' => e = .returned (.bool (f (z : Int))) ∧ w' = W) :
  Calls Tryz.prog 13 #[.pointer (some ⟨sb, 0, none⟩), .func (.func 15) #[] #[cap]] w fun e w' => e = .returned (.int .i64 ((s.run (textT T) (some f) 16).2 : Int)) ∧ ∃ h', Is (s.run (textT T) (some f) 16).1 sb h' ∧ Own.Turn (h ++ c) (h' ++ c) w w' := by
 have qF : ∀ W, (binOp .neq 35 (.func (.func 15) #[] #[cap]) .nilFunc).run Tryz.prog W = .ok (.bool true) W := fun W => by kernel_rfl
 have HB := hhh (And.intro hB (And.intro hT hn))
 have R0 := hhh (Ran.start (T := T) (may := some f) g)
 have I0 := hhh i
 have T0 := hhh (Own.Turn.refl hw)
 have HF := hhh HK
 obtain ⟨O, hO⟩ : ∃ O, O = s.run (textT T) (some f) 16 := ⟨_, rfl⟩
 rw [← hO]
 have HO := hhh hO
 clear i hw g hn hB hT hO HK
 go_enter Tryz.func13, Tryz.ntmps13
 go_wp2
 go_loopw [5] (fun x wr => ∃ (k : Nat) (t : St) (h' : Own.Heap), x = .int .i64 k ∧ Ran T (some f) n s t k ∧ Is t sb h' ∧ Own.Turn (h ++ c) (h' ++ c) w wr) (fun x _ => 16 - (intOf x).toNat)
 case atStart => exact ⟨0, s, h, rfl, R0.out, I0.out, T0.out⟩
 case round =>
  obtain ⟨k, t, h', rfl, R, i, tt⟩ := hrel
  have hk := R.le
  have HRd := hhh (ready_any i tt.has.left)
  have H := hhh (And.intro R (And.intro i tt))
  by_cases hk16 : k = 16
  ·have HOk := hhh (R.off (.inl hk16))
   subst hk16
   clear R i tt hk
   go_wp2
   go_ret
   have e1 : O = (t, 16) := HO.out.trans HOk.out
   exact ⟨by rw [e1]; rfl, h', by rw [e1]; exact H.out.2.1, H.out.2.2⟩
  have hk2 : k < 16 := by omega
  cases hr : t.ready with
  | false =>
   have HOk := hhh (R.off (.inr hr))
   rw [hr] at HRd
   clear R i tt hk hk16 hr
   go_wp2_with (fail)
   refine HRd.out.mono ?_
   rintro e W1 ⟨rfl, rfl⟩
   go_wp2
   go_ret
   have e1 : O = (t, k) := HO.out.trans HOk.out
   exact ⟨by rw [e1]; rfl, h', by rw [e1]; exact H.out.2.1, H.out.2.2⟩
  | true =>
   rw [hr] at HRd
   have Hth := tt.has
   have HQL := hhh (fun m => (show Calls Tryz.prog 23 #[.pointer (some ⟨sb, 1, none⟩)] (wr.drewN m) fun e w' => e = .returned (.int .i64 (t.out.length : Int)) ∧ w' = wr.drewN m by
    obtain ⟨rb, bb, r, lv, pv, hq, hp, a, rfl⟩ := i
    exact Queue.len_any (Hth.left.drewN m) mcs 1 rfl))
   have c9 : wr.cell? ⟨sb, 9, none⟩ = some (.bool t.told) := by
    obtain ⟨rb, bb, r, lv, pv, hq, hp, a, rfl⟩ := i
    exact Hth.left.cell sb 48 _ mcs 9 _ rfl
   have hBt : ∀ x ∈ Own.blocks h', Esc.tabsEnd ≤ x := fun x hx => tt.least HB.out.1 HB.out.2.1.size x (by rw [Own.blocks, List.map_append, List.mem_append]; exact .inl hx)
   have HOn := hhh (fun m => once_any i (Hth.left.drewN m) R.good (by have := HB.out.2.2; omega) (ready_on hr) hBt (HB.out.2.1.of ((tt.drewN m).below HB.out.1 HB.out.2.1.size)))
   have HR := hhh (R.on HB.out.2.2 hk2 hr)
   have HG := hhh (once_good R.good (by have := HB.out.2.2; omega) (ready_on hr))
   have HW := hhh (ready_out hr)
   obtain ⟨Z, hZ⟩ : ∃ Z, Z = (t.once (textT T)).charge := ⟨_, rfl⟩
   have HZ := hhh (And.intro hZ (show Z ≤ 1000000000000 by rw [hZ]; have := charge_le HG.out; have := HB.out.2.2; omega))
   cases hf : f (Z : Int) with
   | true =>
    have HP := hhh (paid_yes (textT T) f t (by rw [← hZ]; exact hf))
    have HFz := hhh hf
    clear R i tt hk hk16 hr hZ hBt Hth hf
    go_wp2_with (fail)
    refine HRd.out.mono ?_
    rintro e W1 ⟨rfl, rfl⟩
    go_wp2_with (fail)
    go_quiet (exact Calls.quiet_of_same (HQL.out _))
    go_wp2_with (fail)
    refine (HOn.out _).mono ?_
    rintro e W2 ⟨⟨v, rfl⟩, h2, i2, t2⟩
    have H2 := hhh (And.intro i2 ((H.out.2.2.drewN _).trans (t2.frame (H.out.2.2.has.drewN _))))
    clear i2 t2 HOn HQL HRd
    go_wp2_with (fail)
    refine (charge_any H2.out.1 H2.out.2.has.left HG.out (by have := HB.out.2.2; omega)).mono ?_
    rintro e W3 ⟨rfl, m3, rfl⟩
    rw [← HZ.out.1]
    go_wp2_with (fail)
    refine (HF.out _ Z (H2.out.2.has.right.drewN _) HZ.out.2).mono ?_
    rintro e W4 ⟨rfl, rfl⟩
    rw [HFz.out]
    go_wp2
    go_roundw
    case rel => exact ⟨k + 1, _, h2, by congr 1, HR.out, by rw [HP.out]; exact H2.out.1, H2.out.2.drewN _⟩
    case measure => simp [intOf]; omega
   | false =>
    have HP := hhh (paid_no (textT T) f t (by rw [← hZ]; exact hf))
    have HFz := hhh hf
    clear R i tt hk hk16 hr hZ hBt Hth hf
    go_wp2_with (fail)
    refine HRd.out.mono ?_
    rintro e W1 ⟨rfl, rfl⟩
    go_wp2_with (fail)
    go_quiet (exact Calls.quiet_of_same (HQL.out _))
    go_wp2_with (fail)
    refine (HOn.out _).mono ?_
    rintro e W2 ⟨⟨v, rfl⟩, h2, i2, t2⟩
    have H2 := hhh (And.intro i2 ((H.out.2.2.drewN _).trans (t2.frame (H.out.2.2.has.drewN _))))
    clear i2 t2 HOn HQL HRd
    go_wp2_with (fail)
    refine (charge_any H2.out.1 H2.out.2.has.left HG.out (by have := HB.out.2.2; omega)).mono ?_
    rintro e W3 ⟨rfl, m3, rfl⟩
    rw [← HZ.out.1]
    go_wp2_with (fail)
    refine (HF.out _ Z (H2.out.2.has.right.drewN _) HZ.out.2).mono ?_
    rintro e W4 ⟨rfl, rfl⟩
    rw [HFz.out]
    go_wp2_with (fail)
    refine (cut_ses H2.out.1 (H2.out.2.has.left.drewN _) t.out.length (by have := HW.out; omega) (by have := HG.out.out; have := HB.out.2.2; omega)).mono ?_
    rintro e W5 ⟨⟨v5, rfl⟩, h5, i5, t5⟩
    have H5 := hhh (And.intro i5 ((H2.out.2.drewN _).trans (t5.frame (H2.out.2.has.drewN _))))
    clear i5 t5
    go_wp2_with (fail)
    refine (end_any H5.out.1 H5.out.2.has.left 11 t.told (by have := HW.out; show (List.take _ _).length ≤ _; rw [List.length_take]; omega)).mono ?_
    rintro e W6 ⟨⟨v6, rfl⟩, h6, i6, t6⟩
    have H6 := hhh (And.intro i6 (H5.out.2.trans (t6.frame H5.out.2.has)))
    clear i6 t6
    go_wp2
    go_roundw
    case rel => exact ⟨k + 1, _, h6, by congr 1, HR.out, by rw [HP.out]; exact H6.out.1, H6.out.2⟩
    case measure => simp [intOf]; omega
end
end Ses
end
section
open Go.RowKit Go.ChangeShapes Go.WideShapes Go.Deep
namespace Pip
def Setup.vals (s : Setup) : List Value := [.int .i64 s.from_, .int .i64 s.to, .int .i64 s.depth, .int .i64 s.stage, .int .i64 s.limit]
structure Setup.Fine (s : Setup) : Prop where
 from_ : -9223372036854775808 ≤ s.from_ ∧ s.from_ ≤ 9223372036854775807
 to_ : -9223372036854775808 ≤ s.to ∧ s.to ≤ 9223372036854775807
 depth : -9223372036854775808 ≤ s.depth ∧ s.depth ≤ 9223372036854775807
 stage : -9223372036854775808 ≤ s.stage ∧ s.stage ≤ 9223372036854775807
 limit : -9223372036854775808 ≤ s.limit ∧ s.limit ≤ 9223372036854775807
theorem wf64 {z : Int} (h : (Lit.int .i64 z).wf = true) : -9223372036854775808 ≤ z ∧ z ≤ 9223372036854775807 := by
 have h' : (decide ((-9223372036854775808 : Int) ≤ z) && decide (z ≤ (9223372036854775807 : Int))) = true := h
 simpa using h'
theorem kInt : Tryz.prog.cellsOf 3 = 1 := by kernel_rfl
theorem kSetup : Tryz.prog.cellsOf 32 = 5 := by kernel_rfl
section
variable {H : Type} {enc : TypeId × Value → H} {w : World} {base : Nat} {sp : Nat → Bool} {held : Bool}
theorem setup_of {fuel : Nat} {cs : List Value} {x : DataW H × List MemPlace} (h : DataW.trod enc Tryz.prog w base sp held fuel 32 cs = some x) : ∃ s : Setup, cs = s.vals ∧ s.Fine := by
 obtain ⟨xs, n, _, _, hl, hxl, hall⟩ := DataW.trod_struct Tryz.underlying32 h
 rw [kSetup] at hl
 match cs, hl with
 | [c0, c1, c2, c3, c4], _ =>
  match xs, hxl with
  | [y0, y1, y2, y3, y4], _ =>
   have g0 : DataW.trod enc Tryz.prog w base sp held n 3 (([c0, c1, c2, c3, c4].drop 0).take (Tryz.prog.cellsOf 3)) = some y0 := hall 0 _ rfl
   have g1 : DataW.trod enc Tryz.prog w base sp held n 3 (([c0, c1, c2, c3, c4].drop 1).take (Tryz.prog.cellsOf 3)) = some y1 := hall 1 _ rfl
   have g2 : DataW.trod enc Tryz.prog w base sp held n 3 (([c0, c1, c2, c3, c4].drop 2).take (Tryz.prog.cellsOf 3)) = some y2 := hall 2 _ rfl
   have g3 : DataW.trod enc Tryz.prog w base sp held n 3 (([c0, c1, c2, c3, c4].drop 3).take (Tryz.prog.cellsOf 3)) = some y3 := hall 3 _ rfl
   have g4 : DataW.trod enc Tryz.prog w base sp held n 3 (([c0, c1, c2, c3, c4].drop 4).take (Tryz.prog.cellsOf 3)) = some y4 := hall 4 _ rfl
   rw [kInt] at g0 g1 g2 g3 g4
   obtain ⟨z0, e0, _, w0⟩ := DataW.trod_int Tryz.underlying3 g0
   obtain ⟨z1, e1, _, w1⟩ := DataW.trod_int Tryz.underlying3 g1
   obtain ⟨z2, e2, _, w2⟩ := DataW.trod_int Tryz.underlying3 g2
   obtain ⟨z3, e3, _, w3⟩ := DataW.trod_int Tryz.underlying3 g3
   obtain ⟨z4, e4, _, w4⟩ := DataW.trod_int Tryz.underlying3 g4
   simp only [List.drop_zero, List.drop_succ_cons, List.take_succ_cons, List.take_zero, List.cons.injEq, and_true] at e0 e1 e2 e3 e4
   subst e0 e1 e2 e3 e4
   exact ⟨⟨z0, z1, z2, z3, z4⟩, rfl, ⟨wf64 w0, wf64 w1, wf64 w2, wf64 w3, wf64 w4⟩⟩
theorem open_setup {r : Reach} {b0 : Nat} {v : Value} {d : DataW H} {p : List MemPlace} (hv : Value.okWide Tryz.prog w r b0 32 v) (h : DataW.Trod enc Tryz.prog w base sp held 32 v d p) : ∃ s : Setup, v = s.val ∧ s.Fine := by
 obtain ⟨cs, rfl, _⟩ := okWide_struct Tryz.underlying32 hv
 obtain ⟨fuel, hf⟩ := h
 obtain ⟨s, hs, hf⟩ := setup_of hf
 refine ⟨s, ?_, hf⟩
 show Value.agg cs = .agg s.vals.toArray
 congr 1
 apply Array.toList_inj.1
 simpa [Value.cells] using hs
end
end Pip
end
end Go.Proofs.YtnnkkgglfajmhaaGreat
