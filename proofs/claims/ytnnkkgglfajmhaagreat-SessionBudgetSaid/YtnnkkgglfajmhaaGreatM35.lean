/- Texts of the walk, joined. -/
import Derived.Test.YtnnkkgglfajmhaaGreatM34
import Derived.Handy
set_option maxRecDepth 100000
set_option maxHeartbeats 8000000
namespace Go.Proofs.YtnnkkgglfajmhaaGreat
section
open Go.RowKit
open Json (Part Wr)
namespace Pip
theorem writerC (v : Value) (xT : TypeId) (w : World) : (Instr.typeAssert (.iface 105 v) xT 131 true).run Tryz.prog w = .ok (.tuple #[.iface 105 v, .bool true]) w :=
 run_typeAssert_hasB Tryz.underlying131 (by kernel_rfl) v xT w
theorem writerJ (v : Value) (xT : TypeId) (w : World) : (Instr.typeAssert (.iface 101 v) xT 131 true).run Tryz.prog w = .ok (.tuple #[.iface 101 v, .bool true]) w :=
 run_typeAssert_hasB Tryz.underlying131 (by kernel_rfl) v xT w
theorem writerP (v : Value) (xT : TypeId) (w : World) : (Instr.typeAssert (.iface 109 v) xT 131 true).run Tryz.prog w = .ok (.tuple #[.iface 109 v, .bool true]) w :=
 run_typeAssert_hasB Tryz.underlying131 (by kernel_rfl) v xT w
theorem Pp.ahead_e (text : Part → List UInt8) (p : Pp) (h : p.e = 0) (l : List Part) (j : Nat) (hz : ∀ k, k < j → (p.ahead text (l.take (k + 1))).1.e = 0) : (p.ahead text (l.take j)).1.e = 0 := by
 cases j with
 | zero => simpa [Pp.ahead] using h
 | succ j => exact hz j (Nat.lt_succ_self j)
theorem Pp.write_stop (text : Part → List UInt8) (p : Pp) (l : List Part) (e j : Nat) (hj : j < l.length) (hz : ∀ k, k < j → (p.ahead text (l.take (k + 1))).1.e = 0) (h : (p.ahead text (l.take (j + 1))).1.e ≠ 0) :
  p.write text l e = ((p.ahead text (l.take (j + 1))).1, (p.ahead text (l.take (j + 1))).2, (p.ahead text (l.take (j + 1))).1.e) := by
 rw [Pp.write_ahead text l e j p hz (by omega), List.drop_eq_getElem_cons hj]
 have hs : l.take (j + 1) = l.take j ++ [l[j]] := List.take_succ_eq_append_getElem hj
 rw [hs, Pp.ahead_snoc] at h ⊢
 simp only [Pp.write]
 rw [if_pos h]
theorem Pp.write_end (text : Part → List UInt8) (p : Pp) (l : List Part) (e : Nat) (hz : ∀ k, k < l.length → (p.ahead text (l.take (k + 1))).1.e = 0) :
  p.write text l e = (⟨(p.ahead text l).1.input, (p.ahead text l).1.output, (p.ahead text l).1.hold, (p.ahead text l).1.over, e⟩, (p.ahead text l).2, e) := by
 rw [Pp.write_ahead text l e l.length p hz (Nat.le_refl _), List.take_length, List.drop_length]
 simp [Pp.write]
def flat (RT WT : TypeId) (rb wb : Nat) (hv : Value) (ov : Bool) (e : Nat) : List Value := [.iface RT (.pointer (some ⟨rb, 0, none⟩)), .iface WT (.pointer (some ⟨wb, 0, none⟩)), hv, .bool ov, .int .i64 (e : Int)]
theorem write_cbor {M B : Nat} {ok : Part → Prop} {text : Part → List UInt8} {Tb : World → Prop} (H : Wok 2 M ok text B Tb) {p : Pp} {b n e : Nat} {h hl : Own.Heap} {w : World} {v : Value}
  (hi : p.Is b h) (hf : p.Fits n) (hn : n ≤ 90000) (hk : p.output.kind = 2) (he : p.e = 0) (l : List Part) (hl18 : l.length ≤ 18) (hfine : ∀ v ∈ l, Fine v ∧ ok v)
  (hs : Own.Slc 20 (partCells l) v hl) (hw : Own.Has w (hl ++ h)) (hB : ∀ x ∈ Own.blocks (hl ++ h), B ≤ x) (hBw : B ≤ w.heap.size) (hT : Tb w) :
  Calls Tryz.prog 49 #[.pointer (some ⟨b, 0, none⟩), v, .int .i64 (e : Int)] w (PpDoes (p.write text l e) b (hl ++ h) w) := by
 obtain ⟨rb, wb, hv, hr, hw0, hh, rfl, iR, iW, iH⟩ := hi
 obtain ⟨R, W, Ho, ov, pe⟩ := p
 have hko := hf.kind
 simp only at hk he hko iR iW iH
 subst he
 rw [hk] at hko
 obtain rfl : Ho = none := by cases Ho with
  | none => rfl
  | some s => cases hko
 obtain ⟨rfl, rfl⟩ := iH
 cases W with
 | json W => cases hk
 | pack W => cases hk
 | cbor W =>
 obtain ⟨a, c, rfl⟩ := hs.len
 have hcl : (partCells l).length = l.length := List.length_map ..
 rw [hcl] at hs ⊢
 obtain ⟨RT, hRT⟩ : ∃ RT, RT = R.ty := ⟨_, rfl⟩
 have hce : ∀ (W : Cw) (e : Nat), (Pp.mk R (.cbor W) none ov e).cells rb wb (.pointer none) = flat RT 105 rb wb (.pointer none) ov e := fun W e => by unfold Pp.cells flat; rw [hRT]; rfl
 rw [hce] at hw hB ⊢
 obtain ⟨p, hp⟩ : ∃ p, p = Pp.mk R (.cbor W) none ov 0 := ⟨_, rfl⟩
 have p0 : p.e = 0 := by rw [hp]
 rw [← hp] at hf ⊢
 have HP := hhh hp
 have HIs := hhh (fun (W : Cw) (e : Nat) (hj : Own.Heap) (i : Cb.Is W wb hj) => (show (Pp.mk R (.cbor W) none ov e).Is b (Own.row b 65 (flat RT 105 rb wb (.pointer none) ov e) :: (hr ++ (hj ++ []))) from
  ⟨rb, wb, .pointer none, hr, hj, [], by rw [hce], iR, i, rfl, rfl⟩))
 have HW := hhh hw
 have HS := hhh hs
 have HFt := hhh hf
 have HFine := hhh hfine
 have HH := hhh H
 have HHB := hhh hB
 have HT := hhh hT
 have HIW := hhh iW
 have hTA := writerC
 have HHl := hhh (show p.heldLen = 0 by rw [hp]; rfl)
 have HStop := hhh (fun j hj hz h => Pp.write_stop text p l e j hj hz h)
 have HEnd := hhh (fun hz => Pp.write_end text p l e hz)
 have HAe := hhh (fun j hz => Pp.ahead_e text p p0 l j hz)
 have HLen := hhh (H.ahead_len l hf (by rw [hp]; rfl) hfine)
 have HLens := hhh (fun j => H.ahead_len (l.take j) hf (by rw [hp]; rfl) fun v hv => hfine v (List.mem_of_mem_take hv))
 have HFits := hhh (fun j => Pp.Fits.ahead text (l.take j) hf fun v hv => (hfine v (List.mem_of_mem_take hv)).1)
 generalize p.write text l e = PW at HStop HEnd ⊢
 obtain ⟨N, hN⟩ : ∃ N, N = l.length := ⟨_, rfl⟩
 rw [← hN] at hl18 HS ⊢
 have HN := hhh hN
 have c1 := hw.right.cell b _ _ mcs 1 _ rfl
 have c1' := fun o => (Own.Turn.litter (Own.Turn.refl hw) o).has.right.cell b _ _ mcs 1 _ rfl
 have HStr := hhh (fun (u : World) (L : List UInt8) (pp sv : Value) (hb h3 : Own.Heap) (e3 : Nat) (B : Own.Buf 5 L sv hb) (t : Own.Turn (hl ++ Own.row b 65 (flat RT 105 rb wb (.pointer none) ov 0) :: (hr ++ (hw0 ++ []))) (Own.row b 65 (flat RT 105 rb wb (.pointer none) ov e3) :: (Own.row w.heap.size 77 [pp, sv] :: (hb ++ (hl ++ (hr ++ (h3 ++ [])))))) w u) =>
  (show Calls Tryz.prog 46 #[.pointer (some ⟨w.heap.size, 0, none⟩)] u fun e w' => e = .returned (.string ⟨L.toArray⟩) ∧ ∃ hb', Own.Turn (hl ++ Own.row b 65 (flat RT 105 rb wb (.pointer none) ov 0) :: (hr ++ (hw0 ++ []))) (Own.row b 65 (flat RT 105 rb wb (.pointer none) ov e3) :: (Own.row w.heap.size 77 [pp, sv] :: (hb' ++ (hl ++ (hr ++ (h3 ++ [])))))) w w' from by
   refine (Bld.string_own (b := w.heap.size) (p := pp) B (t.has.right (a := [_])).left).mono ?_
   rintro e w' ⟨rfl, hb', hB', t'⟩
   exact ⟨rfl, hb', t.trans (Own.Turn.focus t.has (Own.perm_of_count _ ((Own.row w.heap.size 77 [pp, sv] :: hb) ++ (Own.row b 65 (flat RT 105 rb wb (.pointer none) ov e3) :: (hl ++ (hr ++ (h3 ++ []))))) fun x => by simp only [List.count_append, List.count_cons, List.count_nil]; omega) (fun _ => t') (Own.perm_of_count _ _ fun x => by simp only [List.count_append, List.count_cons, List.count_nil]; omega))⟩))
 have HFin := hhh (fun (u : World) (pp sv : Value) (hb h3 : Own.Heap) (e3 : Nat) (t : Own.Turn (hl ++ Own.row b 65 (flat RT 105 rb wb (.pointer none) ov 0) :: (hr ++ (hw0 ++ []))) (Own.row b 65 (flat RT 105 rb wb (.pointer none) ov e3) :: (Own.row w.heap.size 77 [pp, sv] :: (hb ++ (hl ++ (hr ++ (h3 ++ [])))))) w u) =>
  (show Own.Turn (hl ++ Own.row b 65 (flat RT 105 rb wb (.pointer none) ov 0) :: (hr ++ (hw0 ++ []))) (Own.row b 65 (flat RT 105 rb wb (.pointer none) ov e3) :: (hr ++ (h3 ++ []))) w u from (t.perm (.refl _) (Own.perm_of_count _ ((Own.row w.heap.size 77 [pp, sv] :: (hb ++ hl)) ++ (Own.row b 65 (flat RT 105 rb wb (.pointer none) ov e3) :: (hr ++ (h3 ++ [])))) fun x => by simp only [List.count_append, List.count_cons, List.count_nil]; omega)).forget))
 have T0 := hhh (((Own.Turn.refl hw).allocRow w.heap.size rfl 77 [.pointer none, .slice none 0 0]).perm (.refl _)
  (Own.perm_of_count _ (Own.row b 65 (flat RT 105 rb wb (.pointer none) ov 0) :: (Own.row w.heap.size 77 [.pointer none, .slice none 0 0] :: ([] ++ (hl ++ (hr ++ (hw0 ++ [])))))) fun x => by simp only [List.count_append, List.count_cons, List.count_nil]; omega))
 clear hs hw hf hfine H hB hT hN hp p0 iW hcl hce hRT
 go_enter Tryz.func49, Tryz.ntmps49
 go_wp2_with (fail)
 go_loopw [27] (fun i wr => ∃ (j : Nat) (pp sv : Value) (hb hj : Own.Heap) (Wj : Cw), i = .int .i64 j ∧ j ≤ N ∧ Hid (∀ k, k < j → (p.ahead text (l.take (k + 1))).1.e = 0) ∧ Hid ((p.ahead text (l.take j)).1 = Pp.mk R (.cbor Wj) none ov 0) ∧
   (pp = .pointer none ∨ pp = .pointer (some ⟨w.heap.size, 0, none⟩)) ∧ Own.Buf 5 (p.ahead text (l.take j)).2 sv hb ∧ Cb.Is Wj wb hj ∧
   Own.Turn (hl ++ Own.row b 65 (flat RT 105 rb wb (.pointer none) ov 0) :: (hr ++ (hw0 ++ []))) (Own.row b 65 (flat RT 105 rb wb (.pointer none) ov 0) :: (Own.row w.heap.size 77 [pp, sv] :: (hb ++ (hl ++ (hr ++ (hj ++ [])))))) w wr) (fun i _ => N - (intOf i).toNat)
 case atStart => exact ⟨0, _, _, [], hw0, W, rfl, Nat.zero_le _, hhh fun k hk => absurd hk (Nat.not_lt_zero _), hhh HP.out, .inl rfl, .none rfl, HIW.out, T0.out⟩
 case round =>
  obtain ⟨j, pp, sv, hb, hj, Wj, rfl, hjN, hz, hPj, hpp, hbuf, hij, ht⟩ := hrel
  have HBuf := hhh hbuf
  have HIj := hhh hij
  have T := hhh ht
  have HPP := hhh hpp
  clear hbuf hij ht hpp c1 c1' T0 HIW
  by_cases hlt : j < N
  ·have hjl : j < l.length := by have := HN.out; omega
   have hltI : (j : Int) < (N : Int) := by omega
   obtain ⟨tb, off, c2, e1, hcell⟩ := HS.out.stands (by rw [partCells_length]; omega)
   injection e1 with e1a e1b e1c
   subst e1a
   clear e1b e1c
   have k0 := hcell wr (T.out.has.right (a := [_, _])).right.left j l[j].val (by unfold partCells; rw [List.getElem?_map, List.getElem?_eq_getElem hjl]; rfl)
   clear hcell
   have hq := hhh (HFine.out _ (List.getElem_mem hjl))
   have hfj := hhh (show (Writer.cbor Wj).Fits 100000 from (show (Pp.mk R (.cbor Wj) none ov 0).Fits _ by rw [← hPj.out]; exact HFits.out j).out.mono (by rw [List.length_take]; omega))
   have hBj := hhh (T.out.least HHB.out hBw)
   have hTj := hhh (fun u (k : Below B w u) => HH.out.of _ _ HT.out k)
   have hbl := hhh (fun o => (T.out.litter o).below HHB.out hBw)
   have hlen := hhh (HLens.out j)
   have hsn := hhh (show p.ahead text (l.take (j + 1)) = (((p.ahead text (l.take j)).1.one text l[j]).1, (p.ahead text (l.take j)).2 ++ ((p.ahead text (l.take j)).1.one text l[j]).2) by
    rw [show l.take (j + 1) = l.take j ++ [l[j]] from List.take_succ_eq_append_getElem hjl, Pp.ahead_snoc])
   generalize l[j] = q at k0 hq hsn
   have HC := hhh (fun o => (show Calls Tryz.prog 182 #[.pointer (some ⟨wb, 0, none⟩), q.val] (wr.alloc o) fun e w' => e = .returned (.tuple #[.string ⟨(Wj.cbor q).1.toArray⟩, .int .i64 ((Wj.cbor q).2.1 : Int)]) ∧ ∃ h', Cb.Is (Wj.cbor q).2.2 wb h' ∧ Own.Turn hj h' (wr.alloc o) w' from by
    have h1 := HH.out.step (.cbor Wj) rfl wb 100000 hj (wr.alloc o) HIj.out ((T.out.litter o).has.right (a := [_, _])).right.right.right.left hfj.out (Nat.le_refl _) (fun x hx => hBj.out x (by
     simp only [Own.blocks, List.map_cons, List.map_append, List.mem_cons, List.mem_append] at hx ⊢
     exact .inr (.inr (.inr (.inr (.inr (.inl hx))))))) (hTj.out _ (hbl.out o)) q hq.out.1 hq.out.2
    exact h1))
   have hone : (p.ahead text (l.take (j + 1))) = (Pp.mk R (.cbor (Wj.cbor q).2.2) none ov (Wj.cbor q).2.1, (p.ahead text (l.take j)).2 ++ (Wj.cbor q).1) := by
    rw [hsn.out, hPj.out]
    simp only [Pp.one, Writer.some_one]
    rfl
   have hln : (Wj.cbor q).1.length ≤ M := HH.out.len (.cbor Wj) rfl q hq.out.1 hq.out.2
   have Hone := hhh hone
   have Hln := hhh hln
   clear hone hln hsn
   generalize Wj.cbor q = R2 at HC Hone Hln
   obtain ⟨s2, e2, W2⟩ := R2
   simp only at HC Hone Hln
   have c4 := fun o => (T.out.litter o).has.cell b _ _ mcs 4 _ rfl
   have c2 := fun o => (T.out.litter o).has.cell b _ _ mcs 2 _ rfl
   obtain ⟨V, hV⟩ : ∃ V, V = q.val := ⟨_, rfl⟩
   rw [← hV] at k0 HC
   have hY := part_shape q
   rw [← hV] at hY
   clear hV hq
   have HO := hhh (fun (u : World) (h3 : Own.Heap) (e3 : Nat) (t : Own.Turn (hl ++ Own.row b 65 (flat RT 105 rb wb (.pointer none) ov 0) :: (hr ++ (hw0 ++ []))) (Own.row b 65 (flat RT 105 rb wb (.pointer none) ov 0) :: (Own.row w.heap.size 77 [pp, sv] :: (hb ++ (hl ++ (hr ++ (h3 ++ [])))))) w u) =>
    (show Own.Turn (hl ++ Own.row b 65 (flat RT 105 rb wb (.pointer none) ov 0) :: (hr ++ (hw0 ++ []))) (Own.row b 65 (flat RT 105 rb wb (.pointer none) ov e3) :: (Own.row w.heap.size 77 [pp, sv] :: (hb ++ (hl ++ (hr ++ (h3 ++ [])))))) w (u.setCell ⟨b, 4, none⟩ (.int .i64 (e3 : Int))) from t.set 4 (.int .i64 (e3 : Int)) (by simp [flat])))
   have HStep := hhh (fun (o : Obj) (u : World) (h3 : Own.Heap) (t : Own.Turn hj h3 (wr.alloc o) u) => (T.out.litter o).trans (Own.Turn.focus (T.out.litter o).has (Own.perm_of_count _ (hj ++ (Own.row b 65 (flat RT 105 rb wb (.pointer none) ov 0) :: (Own.row w.heap.size 77 [pp, sv] :: (hb ++ (hl ++ (hr ++ [])))))) fun x => by simp only [List.count_append, List.count_cons, List.count_nil]; omega) (fun _ => t)
    (Own.perm_of_count (Own.row b 65 (flat RT 105 rb wb (.pointer none) ov 0) :: (Own.row w.heap.size 77 [pp, sv] :: (hb ++ (hl ++ (hr ++ (h3 ++ [])))))) _ fun x => by simp only [List.count_append, List.count_cons, List.count_nil]; omega)))
   have HWs := hhh (fun (u : World) (h3 : Own.Heap) (e3 : Nat) (t : Own.Turn (hl ++ Own.row b 65 (flat RT 105 rb wb (.pointer none) ov 0) :: (hr ++ (hw0 ++ []))) (Own.row b 65 (flat RT 105 rb wb (.pointer none) ov e3) :: (Own.row w.heap.size 77 [pp, sv] :: (hb ++ (hl ++ (hr ++ (h3 ++ [])))))) w u) =>
    (show Calls Tryz.prog 45 #[.pointer (some ⟨w.heap.size, 0, none⟩), .string ⟨s2.toArray⟩] u fun e w' => e = .returned (.tuple #[.int .i64 ((⟨s2.toArray⟩ : ByteArray).size : Int), .nilIface]) ∧ ∃ sv' hb', Own.Buf 5 ((p.ahead text (l.take j)).2 ++ s2) sv' hb' ∧
      Own.Turn (hl ++ Own.row b 65 (flat RT 105 rb wb (.pointer none) ov 0) :: (hr ++ (hw0 ++ []))) (Own.row b 65 (flat RT 105 rb wb (.pointer none) ov e3) :: (Own.row w.heap.size 77 [.pointer (some ⟨w.heap.size, 0, none⟩), sv'] :: (hb' ++ (hl ++ (hr ++ (h3 ++ [])))))) w w' from by
     refine (Bld.ws_own (b := w.heap.size) (p := pp) ⟨s2.toArray⟩ HBuf.out (t.has.right (a := [_])).left HPP.out ?_).mono ?_
     ·have h1 := hlen.out
      have h2 := HH.out.room
      have h3 := Hln.out
      have h4 : (⟨s2.toArray⟩ : ByteArray).size = s2.length := bytes_size s2
      have h5 : M * (p.heldLen + (l.take j).length) ≤ M * 18 := Nat.mul_le_mul_left _ (by rw [List.length_take, HHl.out]; omega)
      omega
     ·rintro e w' ⟨rfl, sv', hb', hB', t'⟩
      exact ⟨rfl, sv', hb', hB', t.trans (Own.Turn.focus t.has (Own.perm_of_count _ ((Own.row w.heap.size 77 [pp, sv] :: hb) ++ (Own.row b 65 (flat RT 105 rb wb (.pointer none) ov e3) :: (hl ++ (hr ++ (h3 ++ []))))) fun x => by simp only [List.count_append, List.count_cons, List.count_nil]; omega) (fun _ => t') (Own.perm_of_count _ _ fun x => by simp only [List.count_append, List.count_cons, List.count_nil]; omega))⟩))
   rcases hY with rfl | ⟨VT, VX, rfl⟩
   all_goals
    go_wp2_with (fail)
    refine wp_loop_rounds 2 ?_
    rw [rounds_succ]
    go_wp2_with (fail)
    refine (HC.out _).mono ?_
    rintro e3 w3 ⟨rfl, h3, i3, t3⟩
    have I3 := hhh i3
    have T3 := hhh (HStep.out _ _ _ t3)
    have g4 := T3.out.has.cell b _ _ mcs 4 _ rfl
    have gf := T3.out.has.free b _ _ mcs 4
    have T4 := hhh (HO.out _ _ e2 T3.out)
    have HWc := hhh (HWs.out _ _ _ T4.out)
    clear i3 t3 c4 c2
    go_wp2_with (fail)
    refine HWc.out.mono ?_
    rintro e4 w4 ⟨rfl, sv5, hb5, B5, t5⟩
    have T5 := hhh t5
    have HB5 := hhh B5
    have d4 := T5.out.has.cell b _ _ mcs 4 _ rfl
    clear t5 B5 g4 gf
    go_wp2_with (fail)
    rw [rounds_succ]
    by_cases h0 : e2 = 0
    ·subst h0
     go_wp2_with (fail)
     go_roundw
     case rel => exact ⟨j + 1, _, sv5, hb5, h3, W2, by go_num, by omega, hhh (fun k hk => by
      by_cases hkj : k < j
      ·exact hz.out k hkj
      ·obtain rfl : k = j := by omega
       rw [Hone.out]), hhh (by rw [Hone.out]), .inr rfl, by rw [Hone.out]; exact HB5.out, I3.out, T5.out⟩
     case measure => simp [intOf]; omega
    ·have h0' : ((e2 : Int) != 0) = true := by rw [bne_iff_ne]; omega
     have HPW := HStop.out j hjl hz.out (by rw [Hone.out]; exact h0)
     rw [Hone.out] at HPW
     have HPw := hhh HPW
     clear h0 HPW
     go_wp2_with (fail)
     go_region_with (go_at_call 46; (first | refine (HStr.out _ _ _ _ _ _ _ HB5.out T5.out.drew).mono ?_ | refine (HStr.out _ _ _ _ _ _ _ HB5.out (T5.out.drewN _)).mono ?_ | refine (HStr.out _ _ _ _ _ _ _ HB5.out T5.out).mono ?_); rintro e6 w6 ⟨rfl, hb6, t6⟩; have T6 := hhh t6; have d6 := T6.out.has.cell b _ _ mcs 4 _ rfl; clear t6)
     all_goals
      go_wp2
      go_ret2
      rw [HPw.out]
      exact ⟨_, rfl, HIs.out W2 e2 h3 I3.out, HFin.out _ _ _ _ _ _ T6.out⟩
  ·have hge : (N : Int) ≤ (j : Int) := by omega
   obtain rfl : j = N := by omega
   have hE := HEnd.out (by rw [← HN.out]; exact hz.out)
   have hta : l.take j = l := by rw [HN.out]; exact List.take_length
   rw [hta] at hPj HBuf
   rw [hPj.out] at hE
   have HE := hhh hE
   have c4 := T.out.has.cell b _ _ mcs 4 _ rfl
   have f4 := T.out.has.free b _ _ mcs 4
   have T1 := hhh (show Own.Turn (hl ++ Own.row b 65 (flat RT 105 rb wb (.pointer none) ov 0) :: (hr ++ (hw0 ++ []))) (Own.row b 65 (flat RT 105 rb wb (.pointer none) ov e) :: (Own.row w.heap.size 77 [pp, sv] :: (hb ++ (hl ++ (hr ++ (hj ++ [])))))) w (wr.setCell ⟨b, 4, none⟩ (.int .i64 (e : Int))) from T.out.set 4 (.int .i64 (e : Int)) (by simp [flat]))
   have HS1 := hhh (HStr.out _ _ _ _ _ _ _ HBuf.out T1.out)
   clear hE hta
   go_wp2_with (fail)
   refine HS1.out.mono ?_
   rintro e6 w6 ⟨rfl, hb6, t6⟩
   have T6 := hhh t6
   clear t6
   go_wp2
   go_ret2
   rw [HE.out]
   exact ⟨_, rfl, HIs.out Wj e hj HIj.out, HFin.out _ _ _ _ _ _ T6.out⟩
end Pip
end
section
open Go.RowKit
open Json (Part Wr)
namespace Pip
theorem Pp.Is.rows {p : Pp} {b : Nat} {h : Own.Heap} (hi : p.Is b h) : ∃ rb wb hv r, h = Own.row b 65 (p.cells rb wb hv) :: r := by
 obtain ⟨rb, wb, hv, hr, hw, hh, rfl, -, -, -⟩ := hi
 exact ⟨rb, wb, hv, _, rfl⟩
theorem may_any {p : Pp} {b : Nat} {h : Own.Heap} {w : World} (hi : p.Is b h) (hw : Own.Has w h) :
  Calls Tryz.prog 32 #[.pointer (some ⟨b, 0, none⟩)] w fun e w' => e = .returned (.int .i64 (p.may : Int)) ∧ w = w' := by
 obtain ⟨rb, wb, hv, r, rfl⟩ := hi.rows
 have c4 := hw.cell b _ _ mcs 4 _ rfl
 have c3 := hw.cell b _ _ mcs 3 _ rfl
 have hm : p.may = if p.e ≠ 0 then p.e else if p.over = true then 14 else 0 := rfl
 generalize p.may = m at hm ⊢
 generalize p.over = ov at hm c3
 by_cases h0 : p.e = 0
 ·rw [h0] at hm c4
  have HM := hhh hm
  clear hm h0 hi hw
  cases ov
  all_goals
   go_enter Tryz.func32, Tryz.ntmps32
   go_wp2
   go_ret
   exact ⟨by rw [HM.out]; rfl, rfl⟩
 ·rw [if_pos h0] at hm
  have HM := hhh hm
  have hb : ((p.e : Int) != 0) = true := by rw [bne_iff_ne]; omega
  clear hm h0 hi hw
  go_enter Tryz.func32, Tryz.ntmps32
  go_wp2
  go_ret
  exact ⟨by rw [HM.out]; rfl, rfl⟩
end Pip
end
section
open Go.RowKit
open Json (Part Wr)
namespace Pip
structure Wrote (k M : Nat) (ok : Part → Prop) (text : Part → List UInt8) (B : Nat) (Tb : World → Prop) : Prop where
 wok : Wok k M ok text B Tb
 write : ∀ {p : Pp} {b n e : Nat} {h hl : Own.Heap} {w : World} {v : Value}, p.Is b h → p.Fits n → n ≤ 90000 → p.output.kind = k → p.e = 0 → ∀ (l : List Part), l.length ≤ 18 → (∀ v ∈ l, Fine v ∧ ok v) →
  Own.Slc 20 (partCells l) v hl → Own.Has w (hl ++ h) → (∀ x ∈ Own.blocks (hl ++ h), B ≤ x) → B ≤ w.heap.size → Tb w →
  Calls Tryz.prog 49 #[.pointer (some ⟨b, 0, none⟩), v, .int .i64 (e : Int)] w (PpDoes (p.write text l e) b (hl ++ h) w)
theorem readerJ (v : Value) (xT : TypeId) (w : World) : (Instr.typeAssert (.iface 86 v) xT 61 true).run Tryz.prog w = .ok (.tuple #[.iface 86 v, .bool true]) w :=
 run_typeAssert_hasB Tryz.underlying61 (by kernel_rfl) v xT w
theorem readerC (v : Value) (xT : TypeId) (w : World) : (Instr.typeAssert (.iface 91 v) xT 61 true).run Tryz.prog w = .ok (.tuple #[.iface 91 v, .bool true]) w :=
 run_typeAssert_hasB Tryz.underlying61 (by kernel_rfl) v xT w
theorem readerP (v : Value) (xT : TypeId) (w : World) : (Instr.typeAssert (.iface 93 v) xT 61 true).run Tryz.prog w = .ok (.tuple #[.iface 93 v, .bool true]) w :=
 run_typeAssert_hasB Tryz.underlying61 (by kernel_rfl) v xT w
def Reader.fn : Reader → Nat
 | .json _ => 92
 | .cbor _ => 120
 | .pack _ => 145
def Reader.kind : Reader → Nat
 | .json _ => 1
 | .cbor _ => 2
 | .pack _ => 3
def RdDoes (o : Reader × List Part × Nat) (b : Nat) (h : Own.Heap) (w : World) (e : Ending) (w' : World) : Prop :=
 ∃ v hv h', e = .returned (.tuple #[v, .int .i64 (o.2.2 : Int)]) ∧ Own.Slc 20 (partCells o.2.1) v hv ∧ o.1.Is b h' ∧ Own.Turn h (hv ++ h') w w'
structure Reads (f : Nat) : Prop where
 step : ∀ (r : Reader), r.kind = f → ∀ {b n : Nat} {h : Own.Heap} {w : World}, r.Is b h → Own.Has w h → r.Fits n → n ≤ 1000000 → ∀ x : UInt8,
  Calls Tryz.prog r.fn #[.pointer (some ⟨b, 0, none⟩), .int .u8 (x.toNat : Int)] w (RdDoes (r.step x) b h w)
theorem reads_json : Reads 1 where
 step r hk b n h w hi hw hf _ x := by
  cases r with
  | json p => exact jstep_any (p := p) hi hw hf x
  | cbor p => cases hk
  | pack p => cases hk
section
variable {k M B : Nat} {ok : Part → Prop} {text : Part → List UInt8} {Tb : World → Prop}
theorem step_any (H : Wrote k M ok text B Tb) {fk : Nat} (RS : Reads fk) {p : Pp} {b n : Nat} {h : Own.Heap} {w : World} (hi : p.Is b h) (hw : Own.Has w h) (hf : p.Fits n) (hn : n ≤ 80000) (hk : p.output.kind = k) (hfk : p.input.kind = fk) (x : UInt8)
  (hok : p.may = 0 → ∀ v ∈ (p.input.step x).2.1, ok v) (hB : ∀ x ∈ Own.blocks h, B ≤ x) (hBw : B ≤ w.heap.size) (hT : Tb w) :
  Calls Tryz.prog 38 #[.pointer (some ⟨b, 0, none⟩), .int .u8 (x.toNat : Int)] w (PpDoes (p.step text x) b h w) := by
 have HM := hhh (may_any hi hw)
 have HW := hhh hw
 have HI := hhh hi
 by_cases hm : p.may = 0
 ·have hp0 : p.e = 0 := by
   unfold Pp.may at hm
   split at hm
   ·rename_i h1; exact absurd hm h1
   ·omega
  have HP := hhh (show p.step text x = (Pp.mk (p.input.step x).1 p.output p.hold p.over p.e).write text (p.input.step x).2.1 (p.input.step x).2.2 by unfold Pp.step; rw [if_neg (by simp [hm])])
  rw [hm] at HM
  obtain ⟨rb, wb, hv, hr, hw0, hh, rfl, iR, iW, iH⟩ := hi
  have hg := Reader.good_step hf.input x
  have HR := hhh (RS.step _ hfk iR (hw.right (a := [_])).left hf.input (by omega) x)
  have HF2 := hhh (hf.on (Nat.le_succ n) hg.fits p.over)
  have HGf := hhh hg.few
  have HGo := hhh (show ∀ v ∈ (p.input.step x).2.1, Fine v ∧ ok v from fun v hv => ⟨hg.fine v hv, hok hm v hv⟩)
  have HTy : (p.input.step x).1.ty = p.input.ty := by cases p.input <;> rfl
  have HIs := hhh (fun (hr' : Own.Heap) (i : (p.input.step x).1.Is rb hr') => (show (Pp.mk (p.input.step x).1 p.output p.hold p.over p.e).Is b (Own.row b 65 (p.cells rb wb hv) :: (hr' ++ (hw0 ++ hh))) from
   ⟨rb, wb, hv, hr', hw0, hh, by unfold Pp.cells; simp only [HTy], i, iW, iH⟩))
  have HH := hhh H
  have HHB := hhh hB
  have HT := hhh hT
  generalize p.input.step x = O at HP HR HF2 HGf HGo HIs
  obtain ⟨r2, ps, e2⟩ := O
  simp only at HP HR HF2 HGf HGo HIs
  have HWr := hhh (fun (v : Value) (hv2 hr' : Own.Heap) (w1 : World) (s : Own.Slc 20 (partCells ps) v hv2) (i : r2.Is rb hr') (t : Own.Turn hr (hv2 ++ hr') w w1) =>
   (show Calls Tryz.prog 49 #[.pointer (some ⟨b, 0, none⟩), v, .int .i64 (e2 : Int)] w1 (PpDoes (p.step text x) b (Own.row b 65 (p.cells rb wb hv) :: (hr ++ (hw0 ++ hh))) w) from by
    have T : Own.Turn (Own.row b 65 (p.cells rb wb hv) :: (hr ++ (hw0 ++ hh))) (hv2 ++ (Own.row b 65 (p.cells rb wb hv) :: (hr' ++ (hw0 ++ hh)))) w w1 :=
     Own.Turn.focus HW.out (Own.perm_of_count _ (hr ++ (Own.row b 65 (p.cells rb wb hv) :: (hw0 ++ hh))) fun x => by simp only [List.count_append, List.count_cons]; omega) (fun _ => t)
      (Own.perm_of_count _ ((hv2 ++ hr') ++ (Own.row b 65 (p.cells rb wb hv) :: (hw0 ++ hh))) fun x => by simp only [List.count_append, List.count_cons]; omega)
    refine (HH.out.write (HIs.out hr' i) HF2.out (by omega) hk hp0 ps HGf.out HGo.out s T.has (T.least HHB.out hBw) (Nat.le_trans hBw T.keeps.size) (HH.out.wok.of _ _ HT.out (T.below HHB.out hBw))).mono ?_
    rintro e w2 ⟨h', rfl, i', t'⟩
    rw [HP.out]
    exact ⟨h', rfl, i', T.trans t'⟩))
  generalize p.step text x = PS at HP HWr ⊢
  have c0 := hw.cell b _ _ mcs 0 _ rfl
  obtain ⟨pi, po, ph, pv, pe⟩ := p
  simp only at c0 iR HR hm hp0 hk HTy
  clear hw hf hg hok H hB hT HP HF2 HGf HGo HIs iR iW iH HTy hm hk hfk RS
  cases pi
  case json pj =>
   have hTA := readerJ
   simp only [Reader.ty] at c0
   simp only [Reader.fn] at HR
   go_enter Tryz.func38, Tryz.ntmps38
   go_wp2_with (fail)
   refine HM.out.mono ?_
   rintro e w1 ⟨rfl, rfl⟩
   go_wp2_with (fail)
   refine HR.out.mono ?_
   rintro e3 w3 ⟨v, hv2, hr', rfl, s3, i3, t3⟩
   have HX := hhh (HWr.out v hv2 hr' w3 s3 i3 t3)
   clear s3 i3 t3 c0
   go_wp2_with (fail)
   refine HX.out.mono ?_
   rintro e4 w4 ⟨h', rfl, i4, t4⟩
   go_wp2
   go_ret2
   exact ⟨h', rfl, i4, t4⟩
  case cbor pj =>
   have hTA := readerC
   simp only [Reader.ty] at c0
   simp only [Reader.fn] at HR
   go_enter Tryz.func38, Tryz.ntmps38
   go_wp2_with (fail)
   refine HM.out.mono ?_
   rintro e w1 ⟨rfl, rfl⟩
   go_wp2_with (fail)
   refine HR.out.mono ?_
   rintro e3 w3 ⟨v, hv2, hr', rfl, s3, i3, t3⟩
   have HX := hhh (HWr.out v hv2 hr' w3 s3 i3 t3)
   clear s3 i3 t3 c0
   go_wp2_with (fail)
   refine HX.out.mono ?_
   rintro e4 w4 ⟨h', rfl, i4, t4⟩
   go_wp2
   go_ret2
   exact ⟨h', rfl, i4, t4⟩
  case pack pj =>
   have hTA := readerP
   simp only [Reader.ty] at c0
   simp only [Reader.fn] at HR
   go_enter Tryz.func38, Tryz.ntmps38
   go_wp2_with (fail)
   refine HM.out.mono ?_
   rintro e w1 ⟨rfl, rfl⟩
   go_wp2_with (fail)
   refine HR.out.mono ?_
   rintro e3 w3 ⟨v, hv2, hr', rfl, s3, i3, t3⟩
   have HX := hhh (HWr.out v hv2 hr' w3 s3 i3 t3)
   clear s3 i3 t3 c0
   go_wp2_with (fail)
   refine HX.out.mono ?_
   rintro e4 w4 ⟨h', rfl, i4, t4⟩
   go_wp2
   go_ret2
   exact ⟨h', rfl, i4, t4⟩
 ·have HP := hhh (show p.step text x = (p, [], p.may) by unfold Pp.step; rw [if_pos hm])
  have hb : ((p.may : Int) != 0) = true := by rw [bne_iff_ne]; omega
  clear hw hi hf hok H hB hT hm hfk RS
  go_enter Tryz.func38, Tryz.ntmps38
  go_wp2_with (fail)
  refine HM.out.mono ?_
  rintro e w1 ⟨rfl, rfl⟩
  go_wp2
  go_ret2
  rw [HP.out]
  exact ⟨h, rfl, HI.out, Own.Turn.refl HW.out⟩
theorem taJJ (b : Nat) (W : World) : (Instr.typeAssert (.iface 86 (.pointer (some ⟨b, 0, none⟩))) 20 86 true).run Tryz.prog W = .ok (.tuple #[.pointer (some ⟨b, 0, none⟩), .bool true]) W := by kernel_rfl
theorem taCJ (b : Nat) (W : World) : (Instr.typeAssert (.iface 91 (.pointer (some ⟨b, 0, none⟩))) 20 86 true).run Tryz.prog W = .ok (.tuple #[.pointer none, .bool false]) W := by kernel_rfl
theorem taCC (b : Nat) (W : World) : (Instr.typeAssert (.iface 91 (.pointer (some ⟨b, 0, none⟩))) 20 91 true).run Tryz.prog W = .ok (.tuple #[.pointer (some ⟨b, 0, none⟩), .bool true]) W := by kernel_rfl
theorem taPJ (b : Nat) (W : World) : (Instr.typeAssert (.iface 93 (.pointer (some ⟨b, 0, none⟩))) 20 86 true).run Tryz.prog W = .ok (.tuple #[.pointer none, .bool false]) W := by kernel_rfl
theorem taPC (b : Nat) (W : World) : (Instr.typeAssert (.iface 93 (.pointer (some ⟨b, 0, none⟩))) 20 91 true).run Tryz.prog W = .ok (.tuple #[.pointer none, .bool false]) W := by kernel_rfl
theorem taPP (b : Nat) (W : World) : (Instr.typeAssert (.iface 93 (.pointer (some ⟨b, 0, none⟩))) 20 93 true).run Tryz.prog W = .ok (.tuple #[.pointer (some ⟨b, 0, none⟩), .bool true]) W := by kernel_rfl
theorem end_any (H : Wrote k M ok text B Tb) {p : Pp} {b n : Nat} {h : Own.Heap} {w : World} (hi : p.Is b h) (hw : Own.Has w h) (hf : p.Fits n) (hn : n ≤ 80000) (hk : p.output.kind = k)
  (hok : p.may = 0 → ∀ v ∈ p.input.fin.2.1, ok v) (hB : ∀ x ∈ Own.blocks h, B ≤ x) (hBw : B ≤ w.heap.size) (hT : Tb w) :
  Calls Tryz.prog 36 #[.pointer (some ⟨b, 0, none⟩)] w (PpDoes (p.fin text) b h w) := by
 have HM := hhh (may_any hi hw)
 have HW := hhh hw
 have HI := hhh hi
 by_cases hm : p.may = 0
 ·have hp0 : p.e = 0 := by
   unfold Pp.may at hm
   split at hm
   ·rename_i h1; exact absurd hm h1
   ·omega
  have HP := hhh (show p.fin text = (Pp.mk p.input.fin.1 p.output p.hold true p.e).write text p.input.fin.2.1 p.input.fin.2.2 by unfold Pp.fin; rw [if_neg (by simp [hm])])
  rw [hm] at HM
  obtain ⟨rb, wb, hv, hr, hw0, hh, rfl, iR, iW, iH⟩ := hi
  have hg := Reader.good_fin hf.input
  have HF2 := hhh (hf.on (Nat.le_refl n) hg.fits true)
  have HGf := hhh hg.few
  have HGo := hhh (show ∀ v ∈ p.input.fin.2.1, Fine v ∧ ok v from fun v hv => ⟨hg.fine v hv, hok hm v hv⟩)
  have HTy : p.input.fin.1.ty = p.input.ty := by cases p.input <;> rfl
  have HIs := hhh (fun (hr' : Own.Heap) (i : p.input.fin.1.Is rb hr') => (show (Pp.mk p.input.fin.1 p.output p.hold true p.e).Is b (Own.row b 65 ((Pp.mk p.input p.output p.hold true p.e).cells rb wb hv) :: (hr' ++ (hw0 ++ hh))) from
   ⟨rb, wb, hv, hr', hw0, hh, by unfold Pp.cells; simp only [HTy], i, iW, iH⟩))
  have HH := hhh H
  have HHB := hhh hB
  have HT := hhh hT
  have HIR := hhh iR
  have T1 := hhh (show Own.Turn (Own.row b 65 (p.cells rb wb hv) :: (hr ++ (hw0 ++ hh))) (Own.row b 65 ((Pp.mk p.input p.output p.hold true p.e).cells rb wb hv) :: (hr ++ (hw0 ++ hh))) w (w.setCell ⟨b, 3, none⟩ (.bool true)) from (Own.Turn.refl hw).set 3 (.bool true) (by simp [Pp.cells]))
  have HWr := hhh (fun (v : Value) (hv2 hr' : Own.Heap) (w1 : World) (s : Own.Slc 20 (partCells p.input.fin.2.1) v hv2) (i : p.input.fin.1.Is rb hr') (t : Own.Turn hr (hv2 ++ hr') (w.setCell ⟨b, 3, none⟩ (.bool true)) w1) =>
   (show Calls Tryz.prog 49 #[.pointer (some ⟨b, 0, none⟩), v, .int .i64 (p.input.fin.2.2 : Int)] w1 (PpDoes (p.fin text) b (Own.row b 65 (p.cells rb wb hv) :: (hr ++ (hw0 ++ hh))) w) from by
    have T : Own.Turn (Own.row b 65 (p.cells rb wb hv) :: (hr ++ (hw0 ++ hh))) (hv2 ++ (Own.row b 65 ((Pp.mk p.input p.output p.hold true p.e).cells rb wb hv) :: (hr' ++ (hw0 ++ hh)))) w w1 :=
     T1.out.trans (Own.Turn.focus T1.out.has (Own.perm_of_count _ (hr ++ (Own.row b 65 ((Pp.mk p.input p.output p.hold true p.e).cells rb wb hv) :: (hw0 ++ hh))) fun x => by simp only [List.count_append, List.count_cons]; omega) (fun _ => t)
      (Own.perm_of_count _ ((hv2 ++ hr') ++ (Own.row b 65 ((Pp.mk p.input p.output p.hold true p.e).cells rb wb hv) :: (hw0 ++ hh))) fun x => by simp only [List.count_append, List.count_cons]; omega))
    refine (HH.out.write (HIs.out hr' i) HF2.out (by omega) hk hp0 p.input.fin.2.1 HGf.out HGo.out s T.has (T.least HHB.out hBw) (Nat.le_trans hBw T.keeps.size) (HH.out.wok.of _ _ HT.out (T.below HHB.out hBw))).mono ?_
    rintro e w2 ⟨h', rfl, i', t'⟩
    rw [HP.out]
    exact ⟨h', rfl, i', T.trans t'⟩))
  generalize p.fin text = PS at HP HWr ⊢
  have c0 := T1.out.has.cell b _ _ mcs 0 _ rfl
  have c3 := hw.cell b _ _ mcs 3 _ rfl
  have f3 := hw.free b _ _ mcs 3
  have HRh := hhh (T1.out.has.right (a := [_])).left
  have HFi := hhh hf.input
  obtain ⟨pi, po, ph, pv, pe⟩ := p
  simp only at c0 c3 iR HIR hm hp0 hk HTy HFi
  clear hw hf hg hok H hB hT HP HF2 HGf HGo HIs iR iW iH HTy hm hk
  cases pi
  case json pj =>
   simp only [Reader.ty] at c0
   have a1 := taJJ rb
   have HR := hhh (show Calls Tryz.prog 48 #[.pointer (some ⟨rb, 0, none⟩)] _ (JinTells pj.fin rb hr _) from jfin_any (p := pj) HIR.out HRh.out HFi.out)
   go_enter Tryz.func36, Tryz.ntmps36
   go_wp2_with (fail)
   refine HM.out.mono ?_
   rintro e w1 ⟨rfl, rfl⟩
   go_wp2_with (fail)
   refine HR.out.mono ?_
   rintro e3 w3 ⟨v, hv2, hr', rfl, s3, i3, t3⟩
   have HX := hhh (HWr.out v hv2 hr' w3 s3 i3 t3)
   clear s3 i3 t3 c0 c3 f3
   go_wp2_with (fail)
   refine HX.out.mono ?_
   rintro e4 w4 ⟨h', rfl, i4, t4⟩
   go_wp2
   go_ret2
   exact ⟨h', rfl, i4, t4⟩
  case cbor pj =>
   simp only [Reader.ty] at c0
   have a1 := taCJ rb
   have a2 := taCC rb
   have HR := hhh (cinend_any (p := pj) HIR.out HRh.out)
   have HX := hhh (HWr.out (.slice none 0 0) [] hr _ (.bare none rfl) HIR.out (Own.Turn.refl HRh.out))
   go_enter Tryz.func36, Tryz.ntmps36
   go_wp2_with (fail)
   refine HM.out.mono ?_
   rintro e w1 ⟨rfl, rfl⟩
   go_wp2_with (fail)
   refine HR.out.mono ?_
   rintro e3 w3 ⟨rfl, rfl⟩
   go_wp2_with (fail)
   refine HX.out.mono ?_
   rintro e4 w4 ⟨h', rfl, i4, t4⟩
   go_wp2
   go_ret2
   exact ⟨h', rfl, i4, t4⟩
  case pack pj =>
   simp only [Reader.ty] at c0
   have a1 := taPJ rb
   have a2 := taPC rb
   have a3 := taPP rb
   have HR := hhh (pinend_any (p := pj) HIR.out HRh.out)
   have HX := hhh (HWr.out (.slice none 0 0) [] hr _ (.bare none rfl) HIR.out (Own.Turn.refl HRh.out))
   go_enter Tryz.func36, Tryz.ntmps36
   go_wp2_with (fail)
   refine HM.out.mono ?_
   rintro e w1 ⟨rfl, rfl⟩
   go_wp2_with (fail)
   refine HR.out.mono ?_
   rintro e3 w3 ⟨rfl, rfl⟩
   go_wp2_with (fail)
   refine HX.out.mono ?_
   rintro e4 w4 ⟨h', rfl, i4, t4⟩
   go_wp2
   go_ret2
   exact ⟨h', rfl, i4, t4⟩
 ·have HP := hhh (show p.fin text = (p, [], p.may) by unfold Pp.fin; rw [if_pos hm])
  have hb : ((p.may : Int) != 0) = true := by rw [bne_iff_ne]; omega
  clear hw hi hf hok H hB hT hm
  go_enter Tryz.func36, Tryz.ntmps36
  go_wp2_with (fail)
  refine HM.out.mono ?_
  rintro e w1 ⟨rfl, rfl⟩
  go_wp2
  go_ret2
  rw [HP.out]
  exact ⟨h, rfl, HI.out, Own.Turn.refl HW.out⟩
end
end Pip
end
end Go.Proofs.YtnnkkgglfajmhaaGreat
