/- Texts of the walk, joined. -/
import Derived.Test.YtnnkkgglfajmhaaGreatM07
import Derived.Test.YtnnkkgglfajmhaaGreatM08
import Derived.Test.YtnnkkgglfajmhaaGreatM20
set_option maxRecDepth 100000
set_option maxHeartbeats 8000000
namespace Go.Proofs.YtnnkkgglfajmhaaGreat
section
open Go.RowKit
namespace Own
theorem Turn.only {b : Nat} {T : TypeId} {pre l l' post : List Value} {r : Heap} {u v : World} (k : Has u (row b T (pre ++ l ++ post) :: r)) (i : At.Is v b T pre l' post) (o : At.Only b u v) :
  Turn (row b T (pre ++ l ++ post) :: r) (row b T (pre ++ l' ++ post) :: r) u v := by
 have hb : b ∉ blocks r := (List.nodup_cons.1 k.once).1
 refine ⟨⟨fun p hp => ?_, k.once⟩, ⟨o.os, o.tape, o.output, o.size, fun i hi hn => o.block i hi fun e => hn (by rw [e]; exact List.mem_cons_self ..)⟩, fun x hx => .inl hx⟩
 rcases List.mem_cons.1 hp with rfl | h2
 ·exact i
 ·have hm := List.mem_map_of_mem (f := Prod.fst) h2
  exact (o.block p.1 (k.lt (mcm _ hm)) fun e => hb (by rw [e] at hm; exact hm)).trans (k.here p (mcm _ h2))
end Own
namespace Bld
section
variable {w : World} {b N : Nat} {T : TypeId} {pre post : List Value} {p sv : Value}
theorem shape_at {l : List Value} (h : At.Is w b T pre l post) (hN : (pre ++ l ++ post).length = N) : w.shape? b = some (T, N) := by
 unfold At.Is at h
 simp only [World.shape?, h]
 rw [← hN]
 rfl
theorem copyCheck_at (lies : liesAt Tryz.prog Tryz.prog.depth T (N / Tryz.prog.cellsOf T) pre.length 77 1 = true) (hN : (pre ++ [p, sv] ++ post).length = N)
  (h : At.Is w b T pre [p, sv] post) (hp : p = .pointer none ∨ p = .pointer (some ⟨b, pre.length, none⟩)) :
  Calls Tryz.prog 58 #[.pointer (some ⟨b, pre.length, none⟩)] w fun e w' => e = .returned (.tuple #[]) ∧ At.Is w' b T pre [.pointer (some ⟨b, pre.length, none⟩), sv] post ∧ At.Only b w w' := by
 have c0 := h.cell0 _ rfl
 have f0 := h.free pre.length
 have hsh := shape_at h hN
 obtain ⟨j, hj, hjs⟩ := Option.map_eq_some_iff.1 sizeB
 have hlt : pre.length < N := by rw [← hN]; simp
 have HI := hhh h
 rcases hp with rfl | rfl
 ·clear h
  go_enter Tryz.func58, Tryz.ntmps58
  go_wp2
  rw [Lib.run_to_unsafe w ⟨b, pre.length, none⟩ Tryz.underlying75 Tryz.underlying144 hj (by rw [hjs]; decide) hsh hlt]
  simp only [Result.andThen]
  rw [Oper.upon_value]
  go_wp2
  rw [run_callFunc_extern Tryz.func64 (by kernel_rfl) (by kernel_rfl) (by kernel_rfl) (e := Extern.AbiNoEscape.same) (by kernel_rfl)]
  rw [Lib.run_noEscape]
  simp only [Result.andThen]
  rw [Oper.upon_value]
  go_wp2
  rw [Lib.run_from_unsafe w ⟨b, pre.length, none⟩ Tryz.underlying144 Tryz.underlying75 hj hsh lies]
  simp only [Result.andThen]
  rw [Oper.upon_value]
  go_wp2
  go_end0
  exact ⟨rfl, HI.out.set0 _ (Nat.zero_lt_succ _), (At.Only.refl b w).set _ _⟩
 ·clear h
  go_enter Tryz.func58, Tryz.ntmps58
  go_wp2
  rw [Lib.run_neq_ptr_same w _ Tryz.underlying75 hj]
  go_wp2
  go_end0
  exact ⟨rfl, HI.out, At.Only.refl b w⟩
theorem ws_at (lies : liesAt Tryz.prog Tryz.prog.depth T (N / Tryz.prog.cellsOf T) pre.length 77 1 = true) (hN : (pre ++ [p, sv] ++ post).length = N)
  {l : List UInt8} {hb : Own.Heap} (s : ByteArray) (hB : Own.Buf 5 l sv hb) (hw : Own.Has w (Own.row b T (pre ++ [p, sv] ++ post) :: hb)) (hp : p = .pointer none ∨ p = .pointer (some ⟨b, pre.length, none⟩)) (hl : l.length + s.size ≤ 1000000) :
  Calls Tryz.prog 45 #[.pointer (some ⟨b, pre.length, none⟩), .string s] w fun e w' => e = .returned (.tuple #[.int .i64 s.size, .nilIface]) ∧
   ∃ sv' hb', Own.Buf 5 (l ++ s.data.toList) sv' hb' ∧ Own.Turn (Own.row b T (pre ++ [p, sv] ++ post) :: hb) (Own.row b T (pre ++ [.pointer (some ⟨b, pre.length, none⟩), sv'] ++ post) :: hb') w w' := by
 have hi := hw.is3 mcs
 have HC := hhh (copyCheck_at lies hN hi hp)
 have HW := hhh hw
 obtain ⟨i0, hii, hz0, hz1, hz2⟩ := info_parts infoByte
 have HL := hhh hl
 clear hw lies hN hl
 go_enter Tryz.func45, Tryz.ntmps45
 go_wp2_with (fail)
 refine HC.out.mono ?_
 rintro e w1 ⟨rfl, h1, o1⟩
 have t1 := Own.Turn.only HW.out h1 o1
 have c1 := h1.cell 1 _ rfl
 have HI1 := hhh h1
 clear h1 o1
 go_wp2_with (at_builtin; refine Own.wpList_append_buf rfl _ _ 51 9 rfl 5 i0 Tryz.underlying51 Tryz.underlying9 hii hz0 hz1 hz2 _ l hb [_] rfl hB (t1.has.perm (List.perm_append_comm (l₁ := [_]))) s rfl ?c3 ?c4 ?_)
 case c3 => have := HL.out; unfold maxLen; omega
 case c4 => have := HL.out; omega
 intro ad' n' c' h' w2 hn hB' t2
 have t2' := t2.perm List.perm_append_comm List.perm_append_comm
 have eqr : ∀ x y : Value, pre ++ x :: y :: post = pre ++ [x, y] ++ post := fun x y => by simp
 rw [eqr] at t2'
 have t3 := t1.trans t2'
 have hi2 := t3.has.is3 mcs
 have f1 := hi2.free (pre.length + 1)
 have c12 := hi2.cell 1 _ rfl
 clear hi hn eqr
 go_wp2
 go_ret2
 refine ⟨rfl, _, _, hB', ?_⟩
 have h4 := hi2.set 1 (.slice ad' n' c') (Nat.le_refl _)
 exact t3.trans (Own.Turn.only t3.has h4 ((At.Only.refl b _).set _ _))
theorem unsafe_str (l : List UInt8) (h0 : l ≠ []) (g cap : Nat) (cur : Array Value) (fz : Nat × Nat) (hn : l.length ≤ cap) (h3 : cap ≤ maxLen) (h4 : cur.size = cap) (h5 : cur.toList.take l.length = Lib.byteCells l) (W : World) (hg : W.heap[g]? = some (.cells cur 5 fz)) :
  (Builtin.unsafeString_ #[114, 3] 9 #[.pointer (some ⟨g, 0, none⟩), .int .i64 l.length]).run Tryz.prog W = .ok (.string ⟨l.toArray⟩) (W.freeze ⟨g, 0, none⟩ l.length) := by
 refine Lib.run_unsafeString_row W 114 3 9 5 Tryz.underlying114 (by kernel_rfl) g cap ?_ l h0 hn (by unfold maxLen at h3; omega) ?_
 ·simp [World.shape?, hg, h4]
 ·intro j x hj
  have hadd : (⟨g, 0, none⟩ : Addr).add j = ⟨g, j, none⟩ := by unfold Addr.add; split <;> simp_all
  rw [hadd, Own.cell_row hg]
  have hjl : j < l.length := (List.getElem?_eq_some_iff.1 hj).1
  have h6 : (cur.toList.take l.length)[j]? = some (.int .u8 (x.toNat : Int)) := by
   rw [h5]
   unfold Lib.byteCells
   rw [List.getElem?_map, hj]
   rfl
  rw [List.getElem?_take, if_pos hjl] at h6
  simpa using h6
theorem string_at {l : List UInt8} {hb : Own.Heap} (hB : Own.Buf 5 l sv hb) (hw : Own.Has w (Own.row b T (pre ++ [p, sv] ++ post) :: hb)) :
  Calls Tryz.prog 46 #[.pointer (some ⟨b, pre.length, none⟩)] w fun e w' => e = .returned (.string ⟨l.toArray⟩) ∧
   ∃ hb', Own.Buf 5 l sv hb' ∧ Own.Turn (Own.row b T (pre ++ [p, sv] ++ post) :: hb) (Own.row b T (pre ++ [p, sv] ++ post) :: hb') w w' := by
 have hi := hw.is3 mcs
 have c1 := hi.cell 1 _ rfl
 have HW := hhh hw
 have HB := hhh hB
 cases hB with
 | none h0 =>
  subst h0
  have hUS : ∀ W : World, (Builtin.unsafeString_ #[114, 3] 9 #[.pointer none, .int .i64 0]).run Tryz.prog W = .ok (.string .empty) W := fun W => Lib.run_unsafeString_none W _ _ _ none
  have hSD : ∀ W : World, (Builtin.unsafeSliceData_ #[51] 114 #[.slice none 0 0]).run Tryz.prog W = .ok (.pointer none) W := fun W => Lib.run_unsafeSliceData_nil W _ _ _ _
  clear hw hi
  go_enter Tryz.func46, Tryz.ntmps46
  go_wp2
  go_region
  go_wp2
  go_ret
  exact ⟨rfl, _, HB.out, (Own.Turn.refl HW.out).drew⟩
 | row g cap cur fz h0 h1 h2 h3 h4 h5 =>
  have hne : cap ≠ 0 := by
   have : l.length ≠ 0 := fun e => h0 (List.eq_nil_of_length_eq_zero e)
   omega
  have hg := hw.here (g, .cells cur 5 fz) (mcm _ (List.mem_singleton.2 rfl))
  have hUS := unsafe_str l h0 g cap cur fz h2 h3 h4 h5 w.drew hg
  have hSD : ∀ W : World, (Builtin.unsafeSliceData_ #[51] 114 #[.slice (some ⟨g, 0, none⟩) l.length cap]).run Tryz.prog W = .ok (.pointer (some ⟨g, 0, none⟩)) W := fun W => Lib.run_unsafeSliceData_row W _ _ _ _ _ hne
  have HL := hhh (show l.length ≠ 0 from fun e => h0 (List.eq_nil_of_length_eq_zero e))
  have HF := hhh (fun z : Nat × Nat => fun hz : z.2 ≤ l.length => Own.Buf.row (e := 5) g cap cur z h0 hz h2 h3 h4 h5)
  have H1 := hhh h1
  clear hw hi hg h0 h1 h2 h3 h4 h5 hne
  go_enter Tryz.func46, Tryz.ntmps46
  go_wp2
  go_region
  go_wp2
  go_ret
  have t1 := Own.Turn.freeze ((Own.Turn.refl (HW.out.perm (List.Perm.swap ..))).drew) l.length HL.out
  refine ⟨rfl, _, HF.out _ ?_, t1.perm (List.Perm.swap ..) (List.Perm.swap ..)⟩
  split
  ·simp
  ·have := H1.out; simp; omega
end
end Bld
end
end Go.Proofs.YtnnkkgglfajmhaaGreat
