/- Texts of the walk, joined: CorL, Big, JinS, PpM, JinH, CorC. -/
import Derived.Test.YthnbpnfaghjamaaGreatM17
import Derived.Test.YthnbpnfaghjamaaGreatM21
import Derived.Test.YthnbpnfaghjamaaGreatM23
/- cborin.Core: a text, or bytes: their length, a byte of them, all of them. -/
namespace Go.Proofs.YthnbpnfaghjamaaGreat
open Go.RowKit
open Json (Part)
namespace Pip

theorem infoU8 : (Tryz.prog.info? 5).map (fun i => (i.zero, i.size, i.bytes)) = some (some (.int .u8 0), 1, 1) := by kernel_rfl

/-- A core with other bytes. -/
def Core.with_ (c : Core) (word chunks : Bool) (lack : Nat) (s : List UInt8) (k : Esc.Chk) : Core := ⟨c.depth, c.opened, c.done, c.e, word, chunks, lack, s, k⟩

section
variable {c : Core} {T : TypeId} {b : Nat} {post : List Value} {h : Own.Heap} {w : World}

set_option maxRecDepth 100000 in
set_option maxHeartbeats 4000000 in
theorem ctext_any {n : Nat} (hi : c.Is T b post h) (hw : Own.Has w h) (hf : c.Fits n) (hn : n ≤ 1000000) :
    Calls Tryz.prog 130 #[.pointer (some ⟨b, 0, none⟩)] w (CoreDoes c.text T b post h w) := by
  have hd : (c.with_ c.word false c.lack [] c.c).Fits n := ⟨hf.depth, hf.deep, hf.crts, hf.e, by have := hf.s; show ([] : List UInt8).length + c.lack ≤ 200; rw [List.length_nil]; omega, hf.c⟩
  have HP0 : c.text = (c.with_ c.word false c.lack [] c.c).value (if c.word then .word ⟨c.s.toArray⟩ else .blob ⟨c.s.toArray⟩) := rfl
  obtain ⟨oa, oc, sa, sc, ho, hs, rfl, h1, h2⟩ := hi.opened_
  have c4 := hw.cell b _ _ (List.mem_cons_self ..) 4 _ rfl
  have c5 := hw.cell b _ _ (List.mem_cons_self ..) 5 _ rfl
  have c7 := hw.cell b _ _ (List.mem_cons_self ..) 7 _ rfl
  have f5 := hw.free b _ _ (List.mem_cons_self ..) 5
  have f7 := hw.free b _ _ (List.mem_cons_self ..) 7
  have hcv : (convert 47 9 (.slice sa c.s.length sc)).run Tryz.prog w = .ok (.string ⟨c.s.toArray⟩) w :=
    Own.Slc.run_string c.s 47 9 Tryz.underlying47 Tryz.underlying5 Tryz.underlying9 h2 (Own.Has.right (Own.Has.right (a := [_]) hw))
  have T1 : Own.Turn (Own.row b T (c.cells (.slice oa c.opened.length oc) (.slice sa c.s.length sc) ++ post) :: (ho ++ hs))
      ((Own.row b T ((c.with_ c.word false c.lack [] c.c).cells (.slice oa c.opened.length oc) (.slice none 0 0) ++ post) :: ho) ++ hs) w ((w.setCell ⟨b, 7, none⟩ (.slice none 0 0)).setCell ⟨b, 5, none⟩ (.bool false)) :=
    ((Own.Turn.refl hw).put 7 (.slice none 0 0) _ rfl).put 5 (.bool false) _ rfl
  have HT := Lib.hid T1.drop
  have i1 : (c.with_ c.word false c.lack [] c.c).Is T b post (Own.row b T ((c.with_ c.word false c.lack [] c.c).cells (.slice oa c.opened.length oc) (.slice none 0 0) ++ post) :: ho) :=
    ⟨_, _, ho, [], h1, .bare none rfl, by rw [List.append_nil]⟩
  have HV := Lib.hid (fun v => cvalue_any i1 HT.out.has hd hn v)
  obtain ⟨S, hS⟩ : ∃ S : ByteArray, S = ⟨c.s.toArray⟩ := ⟨_, rfl⟩
  rw [← hS] at hcv HP0
  generalize c.text = O at HP0 ⊢
  have HPb := fun (h : c.word = false) => HP0.trans (by rw [if_neg (by rw [h]; exact Bool.false_ne_true)])
  have HPw := fun (h : c.word = true) => HP0.trans (by rw [if_pos h])
  clear hS hi hw hf h1 h2 T1 i1 hd HP0
  cases hwd : c.word
  · rw [hwd] at c4
    have HP := Lib.hid (HPb hwd)
    have HVv := Lib.hid (HV.out (.blob S))
    clear hwd HPb HPw HV
    go_enter Tryz.func130, Tryz.ntmps130
    go_wp2_with (fail)
    refine HVv.out.mono ?_
    rintro e w1 ⟨v, hv, h', rfl, hs, i1, t1⟩
    have HI := Lib.hid i1
    have HT2 := Lib.hid (HT.out.trans t1)
    have HS := Lib.hid hs
    clear i1 t1 hs HVv HT
    go_wp2
    go_ret
    rw [HP.out]
    exact ⟨_, hv, h', rfl, HS.out, HI.out, HT2.out⟩
  · rw [hwd] at c4
    have HP := Lib.hid (HPw hwd)
    have HVv := Lib.hid (HV.out (.word S))
    clear hwd HPb HPw HV
    go_enter Tryz.func130, Tryz.ntmps130
    go_wp2_with (fail)
    refine HVv.out.mono ?_
    rintro e w1 ⟨v, hv, h', rfl, hs, i1, t1⟩
    have HI := Lib.hid i1
    have HT2 := Lib.hid (HT.out.trans t1)
    have HS := Lib.hid hs
    clear i1 t1 hs HVv HT
    go_wp2
    go_ret
    rw [HP.out]
    exact ⟨_, hv, h', rfl, HS.out, HI.out, HT2.out⟩

set_option maxRecDepth 100000 in
set_option maxHeartbeats 4000000 in
theorem clength_any {n : Nat} (hi : c.Is T b post h) (hw : Own.Has w h) (hf : c.Fits n) (hn : n ≤ 1000000) (word : Bool) (m : Nat) :
    Calls Tryz.prog 137 #[.pointer (some ⟨b, 0, none⟩), .bool word, .int .u64 (m : Int)] w (CoreDoes (c.length word m) T b post h w) := by
  have hs200 := hf.s
  have HFl := Lib.hid (cfail_any hi hw 5)
  have HP0 : c.length word m = if 200 - c.s.length < m then c.fail 5 else if 0 < m ∨ c.chunks = true then (c.with_ word c.chunks m c.s Chk_zero, []) else (c.with_ word c.chunks m c.s Chk_zero).text := rfl
  obtain ⟨oa, oc, sa, sc, ho, hs, rfl, h1, h2⟩ := hi.opened_
  have c4 := hw.cell b _ _ (List.mem_cons_self ..) 4 _ rfl
  have c5 := hw.cell b _ _ (List.mem_cons_self ..) 5 _ rfl
  have c6 := hw.cell b _ _ (List.mem_cons_self ..) 6 _ rfl
  have c7 := hw.cell b _ _ (List.mem_cons_self ..) 7 _ rfl
  have c8 := hw.cell b _ _ (List.mem_cons_self ..) 8 _ rfl
  have c9 := hw.cell b _ _ (List.mem_cons_self ..) 9 _ rfl
  have c10 := hw.cell b _ _ (List.mem_cons_self ..) 10 _ rfl
  have c11 := hw.cell b _ _ (List.mem_cons_self ..) 11 _ rfl
  have f4 := hw.free b _ _ (List.mem_cons_self ..) 4
  have f6 := hw.free b _ _ (List.mem_cons_self ..) 6
  have f8 := hw.free b _ _ (List.mem_cons_self ..) 8
  have f9 := hw.free b _ _ (List.mem_cons_self ..) 9
  have f10 := hw.free b _ _ (List.mem_cons_self ..) 10
  have f11 := hw.free b _ _ (List.mem_cons_self ..) 11
  have T1 := fun (_ : m ≤ 200) => (show Own.Turn (Own.row b T (c.cells (.slice oa c.opened.length oc) (.slice sa c.s.length sc) ++ post) :: (ho ++ hs))
      (Own.row b T ((c.with_ word c.chunks m c.s Chk_zero).cells (.slice oa c.opened.length oc) (.slice sa c.s.length sc) ++ post) :: (ho ++ hs)) w
      ((((((w.setCell ⟨b, 4, none⟩ (.bool word)).setCell ⟨b, 6, none⟩ (.int .i64 (m : Int))).setCell ⟨b, 8, none⟩ (.int .i64 0)).setCell ⟨b, 9, none⟩ (.int .u8 0)).setCell ⟨b, 10, none⟩ (.int .u8 0)).setCell ⟨b, 11, none⟩ (.bool false)) from
    ((((((Own.Turn.refl hw).put 4 (.bool word) _ rfl).put 6 (.int .i64 (m : Int)) _ rfl).put 8 (.int .i64 0) _ rfl).put 9 (.int .u8 0) _ rfl).put 10 (.int .u8 0) _ rfl).put 11 (.bool false) _ rfl)
  have i1 : (c.with_ word c.chunks m c.s Chk_zero).Is T b post (Own.row b T ((c.with_ word c.chunks m c.s Chk_zero).cells (.slice oa c.opened.length oc) (.slice sa c.s.length sc) ++ post) :: (ho ++ hs)) := ⟨_, _, ho, hs, h1, h2, rfl⟩
  have HI1 := Lib.hid i1
  obtain ⟨K, hK⟩ : ∃ K, K = 200 - c.s.length := ⟨_, rfl⟩
  have hsub : (200 : Int) - (c.s.length : Int) = (K : Int) := by omega
  have hK200 : K ≤ 200 := by omega
  rw [← hK] at HP0
  have hd := fun (hm : m ≤ K) => (show (c.with_ word c.chunks m c.s Chk_zero).Fits n from ⟨hf.depth, hf.deep, hf.crts, hf.e, by show c.s.length + m ≤ 200; omega, Nat.zero_le _⟩)
  generalize c.length word m = O at HP0 ⊢
  have fin : ∀ P : Core × List Part, O = P → ∀ (e : Ending) (w' : World), CoreDoes P T b post (Own.row b T (c.cells (.slice oa c.opened.length oc) (.slice sa c.s.length sc) ++ post) :: (ho ++ hs)) w e w' → CoreDoes O T b post (Own.row b T (c.cells (.slice oa c.opened.length oc) (.slice sa c.s.length sc) ++ post) :: (ho ++ hs)) w e w' := fun P hP e w' hd => hP ▸ hd
  have Fin := Lib.hid fin
  clear fin hi i1 h1 h2 hs200 hK
  by_cases hlt : K < m
  · have HP := Lib.hid (show O = c.fail 5 by rw [HP0, if_pos hlt])
    have hltI : (K : Int) < (m : Int) := by omega
    clear HP0 hd T1 hf hw c4 c5 c6 c8 c9 c10 c11 f4 f6 f8 f9 f10 f11
    go_enter Tryz.func137, Tryz.ntmps137
    go_wp2_with (fail)
    refine HFl.out.mono ?_
    rintro e w1 ⟨v, hv, h', rfl, hs, i1, t1⟩
    have HI := Lib.hid i1
    have HT2 := Lib.hid t1
    have HS := Lib.hid hs
    clear i1 t1 hs
    go_wp2
    go_ret
    exact Fin.out _ HP.out _ _ ⟨_, hv, h', rfl, HS.out, HI.out, HT2.out⟩
  · have hltI : ¬ (K : Int) < (m : Int) := by omega
    have hm200 : m ≤ 200 := by omega
    have HT1 := Lib.hid (T1 hm200)
    have hd1 := hd (by omega)
    rw [if_neg hlt] at HP0
    have HTx := Lib.hid (ctext_any HI1.out HT1.out.has hd1 hn)
    clear T1 hd hd1 HFl hlt hf hw
    have hwm : IntKind.i64.wrap (m : Int) = (m : Int) := by rw [IntKind.wrap_i64]; omega
    rcases Nat.eq_zero_or_pos m with h0 | h0
    · subst h0
      cases hch : c.chunks
      · have HP := Lib.hid (HP0.trans (if_neg (by rw [hch]; simp)))
        rw [hch] at c5
        clear HP0
        go_enter Tryz.func137, Tryz.ntmps137
        go_wp2_with (fail)
        refine HTx.out.mono ?_
        rintro e w1 ⟨v, hv, h', rfl, hs, i1, t1⟩
        have HI := Lib.hid i1
        have HT2 := Lib.hid (HT1.out.trans t1)
        have HS := Lib.hid hs
        clear i1 t1 hs
        go_wp2
        go_ret
        exact Fin.out _ HP.out _ _ ⟨_, hv, h', rfl, HS.out, HI.out, HT2.out⟩
      · have HP := Lib.hid (HP0.trans (if_pos (.inr hch)))
        rw [hch] at c5
        clear HP0
        go_enter Tryz.func137, Tryz.ntmps137
        go_wp2_with (fail)
        go_ret
        exact Fin.out _ HP.out _ _ (.nought rfl HI1.out HT1.out)
    · have HP := Lib.hid (HP0.trans (if_pos (.inl h0)))
      have h0I : (0 : Int) < (m : Int) := by omega
      clear HP0 HTx
      go_enter Tryz.func137, Tryz.ntmps137
      go_wp2_with (fail)
      go_ret
      exact Fin.out _ HP.out _ _ (.nought rfl HI1.out HT1.out)
end
end Pip
end Go.Proofs.YthnbpnfaghjamaaGreat

/- head.Big: a number in so many bytes. -/
namespace Go.Proofs.YthnbpnfaghjamaaGreat
open Go.RowKit
open Json (Part)
namespace Pip

theorem hcv_new (w : World) (k : Nat) (hk : w.heap.size = k) (l : List UInt8) (n : Nat) (hn : l.length = n) (h : n ≤ maxLen) :
    (convert 47 9 (.slice (some ⟨k, 0, none⟩) n n)).run Tryz.prog (w.alloc (.cells (u8s l).toArray 5)) = .ok (.string ⟨l.toArray⟩) (w.alloc (.cells (u8s l).toArray 5)) := by
  subst hk hn
  have t := (Own.Turn.refl (Own.Has.nil w)).allocRow w.heap.size rfl 5 (u8s l)
  have s := Own.Slc.row (e := 5) (xs := u8s l) w.heap.size [] [] (by rw [u8s_length]; simpa using h)
  rw [u8s_length] at s
  simp only [List.length_nil, Nat.add_zero, List.nil_append, List.append_nil] at s
  exact Own.Slc.run_string l 47 9 Tryz.underlying47 Tryz.underlying5 Tryz.underlying9 s t.has

theorem big_1 (v : Nat) : big v 1 = [UInt8.ofNat v] := by simp [big, List.range, List.range.loop]

set_option maxRecDepth 100000 in
set_option maxHeartbeats 4000000 in
theorem big1_any (v : Nat) (w : World) :
    Calls Tryz.prog 51 #[.int .u64 (v : Int), .int .i64 1] w fun e w' => e = .returned (.string ⟨(big v 1).toArray⟩) ∧ Below w.heap.size w w' := by
  have HB := Lib.hid (fun o => (Below.refl w.heap.size w).alloc (Nat.le_refl _) o)
  have HP := Lib.hid (big_1 v)
  have hz : madeCells #[Value.int .u8 0] 1 = #[Value.int .u8 0] := by rw [Own.made_list]; rfl
  have hmk : ∀ W, (Instr.makeSlice 47 (.int .i64 1) (.int .i64 1)).run Tryz.prog W = .ok (.slice (some ⟨W.heap.size, 0, none⟩) 1 1) (W.alloc (.cells #[Value.int .u8 0] 5)) := fun W => by
    have h := run_make_row' (P := Tryz.prog) 47 5 (.int .u8 0) 1 Tryz.underlying47 (by kernel_rfl) rfl .i64 .i64 1 (by omega) (by omega) W
    rw [hz] at h
    exact h
  obtain ⟨S, hS⟩ : ∃ S : ByteArray, S = ⟨([UInt8.ofNat v] : List UInt8).toArray⟩ := ⟨_, rfl⟩
  have hcv : (convert 47 9 (.slice (some ⟨w.heap.size, 0, none⟩) 1 1)).run Tryz.prog (w.alloc (.cells #[.int .u8 ((v : Int) % 256)] 5)) = .ok (.string S) (w.alloc (.cells #[.int .u8 ((v : Int) % 256)] 5)) := by
    have h := hcv_new w w.heap.size rfl [UInt8.ofNat v] 1 rfl (by decide)
    have e : (u8s [UInt8.ofNat v]).toArray = #[.int .u8 ((v : Int) % 256)] := by
      simp only [u8s, List.map_cons, List.map_nil, UInt8.toNat_ofNat']
      rw [show ((v % 2 ^ 8 : Nat) : Int) = (v : Int) % 256 by omega]
    rw [e, ← hS] at h
    exact h
  have HS := Lib.hid hS
  clear hS hz
  go_enter Tryz.func51, Tryz.ntmps51
  go_wp2
  refine wp_loop_rounds 2 ?_
  rw [rounds_succ]
  go_wp2
  rw [rounds_succ]
  go_wp2
  go_ret
  exact ⟨by rw [HP.out, ← HS.out]; rfl, HB.out _⟩

theorem big_2 (v : Nat) : big v 2 = [UInt8.ofNat (v / 256), UInt8.ofNat v] := by simp [big, List.range, List.range.loop]

set_option maxRecDepth 100000 in
set_option maxHeartbeats 4000000 in
theorem big2_any (v : Nat) (w : World) :
    Calls Tryz.prog 51 #[.int .u64 (v : Int), .int .i64 2] w fun e w' => e = .returned (.string ⟨(big v 2).toArray⟩) ∧ Below w.heap.size w w' := by
  have HB := Lib.hid (fun o => (Below.refl w.heap.size w).alloc (Nat.le_refl _) o)
  have HP := Lib.hid (big_2 v)
  have hz : madeCells #[Value.int .u8 0] 2 = #[Value.int .u8 0, Value.int .u8 0] := by rw [Own.made_list]; rfl
  have hmk : ∀ W, (Instr.makeSlice 47 (.int .i64 2) (.int .i64 2)).run Tryz.prog W = .ok (.slice (some ⟨W.heap.size, 0, none⟩) 2 2) (W.alloc (.cells #[Value.int .u8 0, Value.int .u8 0] 5)) := fun W => by
    have h := run_make_row' (P := Tryz.prog) 47 5 (.int .u8 0) 1 Tryz.underlying47 (by kernel_rfl) rfl .i64 .i64 2 (by omega) (by omega) W
    rw [hz] at h
    exact h
  obtain ⟨S, hS⟩ : ∃ S : ByteArray, S = ⟨([UInt8.ofNat (v / 256), UInt8.ofNat v] : List UInt8).toArray⟩ := ⟨_, rfl⟩
  have hcv : (convert 47 9 (.slice (some ⟨w.heap.size, 0, none⟩) 2 2)).run Tryz.prog (w.alloc (.cells #[.int .u8 ((v : Int) / 256 % 256), .int .u8 ((v : Int) % 256)] 5)) = .ok (.string S) (w.alloc (.cells #[.int .u8 ((v : Int) / 256 % 256), .int .u8 ((v : Int) % 256)] 5)) := by
    have h := hcv_new w w.heap.size rfl [UInt8.ofNat (v / 256), UInt8.ofNat v] 2 rfl (by decide)
    have e : (u8s [UInt8.ofNat (v / 256), UInt8.ofNat v]).toArray = #[.int .u8 ((v : Int) / 256 % 256), .int .u8 ((v : Int) % 256)] := by
      simp only [u8s, List.map_cons, List.map_nil, UInt8.toNat_ofNat']
      rw [show ((v / 256 % 2 ^ 8 : Nat) : Int) = (v : Int) / 256 % 256 by omega]
      rw [show ((v % 2 ^ 8 : Nat) : Int) = (v : Int) % 256 by omega]
    rw [e, ← hS] at h
    exact h
  have HS := Lib.hid hS
  clear hS hz
  go_enter Tryz.func51, Tryz.ntmps51
  go_wp2
  refine wp_loop_rounds 3 ?_
  rw [rounds_succ]
  go_wp2
  rw [rounds_succ]
  go_wp2
  rw [rounds_succ]
  go_wp2
  go_ret
  exact ⟨by rw [HP.out, ← HS.out]; rfl, HB.out _⟩

theorem big_4 (v : Nat) : big v 4 = [UInt8.ofNat (v / 16777216), UInt8.ofNat (v / 65536), UInt8.ofNat (v / 256), UInt8.ofNat v] := by simp [big, List.range, List.range.loop]

set_option maxRecDepth 100000 in
set_option maxHeartbeats 4000000 in
theorem big4_any (v : Nat) (w : World) :
    Calls Tryz.prog 51 #[.int .u64 (v : Int), .int .i64 4] w fun e w' => e = .returned (.string ⟨(big v 4).toArray⟩) ∧ Below w.heap.size w w' := by
  have HB := Lib.hid (fun o => (Below.refl w.heap.size w).alloc (Nat.le_refl _) o)
  have HP := Lib.hid (big_4 v)
  have hz : madeCells #[Value.int .u8 0] 4 = #[Value.int .u8 0, Value.int .u8 0, Value.int .u8 0, Value.int .u8 0] := by rw [Own.made_list]; rfl
  have hmk : ∀ W, (Instr.makeSlice 47 (.int .i64 4) (.int .i64 4)).run Tryz.prog W = .ok (.slice (some ⟨W.heap.size, 0, none⟩) 4 4) (W.alloc (.cells #[Value.int .u8 0, Value.int .u8 0, Value.int .u8 0, Value.int .u8 0] 5)) := fun W => by
    have h := run_make_row' (P := Tryz.prog) 47 5 (.int .u8 0) 1 Tryz.underlying47 (by kernel_rfl) rfl .i64 .i64 4 (by omega) (by omega) W
    rw [hz] at h
    exact h
  obtain ⟨S, hS⟩ : ∃ S : ByteArray, S = ⟨([UInt8.ofNat (v / 16777216), UInt8.ofNat (v / 65536), UInt8.ofNat (v / 256), UInt8.ofNat v] : List UInt8).toArray⟩ := ⟨_, rfl⟩
  have hcv : (convert 47 9 (.slice (some ⟨w.heap.size, 0, none⟩) 4 4)).run Tryz.prog (w.alloc (.cells #[.int .u8 ((v : Int) / 16777216 % 256), .int .u8 ((v : Int) / 65536 % 256), .int .u8 ((v : Int) / 256 % 256), .int .u8 ((v : Int) % 256)] 5)) = .ok (.string S) (w.alloc (.cells #[.int .u8 ((v : Int) / 16777216 % 256), .int .u8 ((v : Int) / 65536 % 256), .int .u8 ((v : Int) / 256 % 256), .int .u8 ((v : Int) % 256)] 5)) := by
    have h := hcv_new w w.heap.size rfl [UInt8.ofNat (v / 16777216), UInt8.ofNat (v / 65536), UInt8.ofNat (v / 256), UInt8.ofNat v] 4 rfl (by decide)
    have e : (u8s [UInt8.ofNat (v / 16777216), UInt8.ofNat (v / 65536), UInt8.ofNat (v / 256), UInt8.ofNat v]).toArray = #[.int .u8 ((v : Int) / 16777216 % 256), .int .u8 ((v : Int) / 65536 % 256), .int .u8 ((v : Int) / 256 % 256), .int .u8 ((v : Int) % 256)] := by
      simp only [u8s, List.map_cons, List.map_nil, UInt8.toNat_ofNat']
      rw [show ((v / 16777216 % 2 ^ 8 : Nat) : Int) = (v : Int) / 16777216 % 256 by omega]
      rw [show ((v / 65536 % 2 ^ 8 : Nat) : Int) = (v : Int) / 65536 % 256 by omega]
      rw [show ((v / 256 % 2 ^ 8 : Nat) : Int) = (v : Int) / 256 % 256 by omega]
      rw [show ((v % 2 ^ 8 : Nat) : Int) = (v : Int) % 256 by omega]
    rw [e, ← hS] at h
    exact h
  have HS := Lib.hid hS
  clear hS hz
  go_enter Tryz.func51, Tryz.ntmps51
  go_wp2
  refine wp_loop_rounds 5 ?_
  rw [rounds_succ]
  go_wp2
  rw [rounds_succ]
  go_wp2
  rw [rounds_succ]
  go_wp2
  rw [rounds_succ]
  go_wp2
  rw [rounds_succ]
  go_wp2
  go_ret
  exact ⟨by rw [HP.out, ← HS.out]; rfl, HB.out _⟩

theorem big_8 (v : Nat) : big v 8 = [UInt8.ofNat (v / 72057594037927936), UInt8.ofNat (v / 281474976710656), UInt8.ofNat (v / 1099511627776), UInt8.ofNat (v / 4294967296), UInt8.ofNat (v / 16777216), UInt8.ofNat (v / 65536), UInt8.ofNat (v / 256), UInt8.ofNat v] := by simp [big, List.range, List.range.loop]

set_option maxRecDepth 100000 in
set_option maxHeartbeats 4000000 in
theorem big8_any (v : Nat) (hv : v < 18446744073709551616) (w : World) :
    Calls Tryz.prog 51 #[.int .u64 (v : Int), .int .i64 8] w fun e w' => e = .returned (.string ⟨(big v 8).toArray⟩) ∧ Below w.heap.size w w' := by
  have HB := Lib.hid (fun o => (Below.refl w.heap.size w).alloc (Nat.le_refl _) o)
  have HP := Lib.hid (big_8 v)
  have hz : madeCells #[Value.int .u8 0] 8 = #[Value.int .u8 0, Value.int .u8 0, Value.int .u8 0, Value.int .u8 0, Value.int .u8 0, Value.int .u8 0, Value.int .u8 0, Value.int .u8 0] := by rw [Own.made_list]; rfl
  have hmk : ∀ W, (Instr.makeSlice 47 (.int .i64 8) (.int .i64 8)).run Tryz.prog W = .ok (.slice (some ⟨W.heap.size, 0, none⟩) 8 8) (W.alloc (.cells #[Value.int .u8 0, Value.int .u8 0, Value.int .u8 0, Value.int .u8 0, Value.int .u8 0, Value.int .u8 0, Value.int .u8 0, Value.int .u8 0] 5)) := fun W => by
    have h := run_make_row' (P := Tryz.prog) 47 5 (.int .u8 0) 1 Tryz.underlying47 (by kernel_rfl) rfl .i64 .i64 8 (by omega) (by omega) W
    rw [hz] at h
    exact h
  obtain ⟨S, hS⟩ : ∃ S : ByteArray, S = ⟨([UInt8.ofNat (v / 72057594037927936), UInt8.ofNat (v / 281474976710656), UInt8.ofNat (v / 1099511627776), UInt8.ofNat (v / 4294967296), UInt8.ofNat (v / 16777216), UInt8.ofNat (v / 65536), UInt8.ofNat (v / 256), UInt8.ofNat v] : List UInt8).toArray⟩ := ⟨_, rfl⟩
  have hcv : (convert 47 9 (.slice (some ⟨w.heap.size, 0, none⟩) 8 8)).run Tryz.prog (w.alloc (.cells #[.int .u8 ((v : Int) / 72057594037927936), .int .u8 ((v : Int) / 281474976710656 % 256), .int .u8 ((v : Int) / 1099511627776 % 256), .int .u8 ((v : Int) / 4294967296 % 256), .int .u8 ((v : Int) / 16777216 % 256), .int .u8 ((v : Int) / 65536 % 256), .int .u8 ((v : Int) / 256 % 256), .int .u8 ((v : Int) % 256)] 5)) = .ok (.string S) (w.alloc (.cells #[.int .u8 ((v : Int) / 72057594037927936), .int .u8 ((v : Int) / 281474976710656 % 256), .int .u8 ((v : Int) / 1099511627776 % 256), .int .u8 ((v : Int) / 4294967296 % 256), .int .u8 ((v : Int) / 16777216 % 256), .int .u8 ((v : Int) / 65536 % 256), .int .u8 ((v : Int) / 256 % 256), .int .u8 ((v : Int) % 256)] 5)) := by
    have h := hcv_new w w.heap.size rfl [UInt8.ofNat (v / 72057594037927936), UInt8.ofNat (v / 281474976710656), UInt8.ofNat (v / 1099511627776), UInt8.ofNat (v / 4294967296), UInt8.ofNat (v / 16777216), UInt8.ofNat (v / 65536), UInt8.ofNat (v / 256), UInt8.ofNat v] 8 rfl (by decide)
    have e : (u8s [UInt8.ofNat (v / 72057594037927936), UInt8.ofNat (v / 281474976710656), UInt8.ofNat (v / 1099511627776), UInt8.ofNat (v / 4294967296), UInt8.ofNat (v / 16777216), UInt8.ofNat (v / 65536), UInt8.ofNat (v / 256), UInt8.ofNat v]).toArray = #[.int .u8 ((v : Int) / 72057594037927936), .int .u8 ((v : Int) / 281474976710656 % 256), .int .u8 ((v : Int) / 1099511627776 % 256), .int .u8 ((v : Int) / 4294967296 % 256), .int .u8 ((v : Int) / 16777216 % 256), .int .u8 ((v : Int) / 65536 % 256), .int .u8 ((v : Int) / 256 % 256), .int .u8 ((v : Int) % 256)] := by
      simp only [u8s, List.map_cons, List.map_nil, UInt8.toNat_ofNat']
      rw [show ((v / 72057594037927936 % 2 ^ 8 : Nat) : Int) = (v : Int) / 72057594037927936 by omega]
      rw [show ((v / 281474976710656 % 2 ^ 8 : Nat) : Int) = (v : Int) / 281474976710656 % 256 by omega]
      rw [show ((v / 1099511627776 % 2 ^ 8 : Nat) : Int) = (v : Int) / 1099511627776 % 256 by omega]
      rw [show ((v / 4294967296 % 2 ^ 8 : Nat) : Int) = (v : Int) / 4294967296 % 256 by omega]
      rw [show ((v / 16777216 % 2 ^ 8 : Nat) : Int) = (v : Int) / 16777216 % 256 by omega]
      rw [show ((v / 65536 % 2 ^ 8 : Nat) : Int) = (v : Int) / 65536 % 256 by omega]
      rw [show ((v / 256 % 2 ^ 8 : Nat) : Int) = (v : Int) / 256 % 256 by omega]
      rw [show ((v % 2 ^ 8 : Nat) : Int) = (v : Int) % 256 by omega]
    rw [e, ← hS] at h
    exact h
  have HS := Lib.hid hS
  clear hS hz
  go_enter Tryz.func51, Tryz.ntmps51
  go_wp2
  refine wp_loop_rounds 9 ?_
  rw [rounds_succ]
  go_wp2
  rw [rounds_succ]
  go_wp2
  rw [rounds_succ]
  go_wp2
  rw [rounds_succ]
  go_wp2
  rw [rounds_succ]
  go_wp2
  rw [rounds_succ]
  go_wp2
  rw [rounds_succ]
  go_wp2
  rw [rounds_succ]
  go_wp2
  rw [rounds_succ]
  go_wp2
  go_ret
  exact ⟨by rw [HP.out, ← HS.out]; rfl, HB.out _⟩

end Pip
end Go.Proofs.YthnbpnfaghjamaaGreat

/- jsonin.Parser: Step, End, Held. -/
namespace Go.Proofs.YthnbpnfaghjamaaGreat
open Go.RowKit
open Json (Part)
namespace Pip

theorem Lex.between_len (l : Lex) (x : UInt8) : (l.between x).2.length ≤ 1 := by
  rcases between_toks l x with h | ⟨t, h⟩ <;> rw [h] <;> simp

theorem Lex.ended_len (l : Lex) : l.ended.2.length ≤ 1 := by
  unfold Lex.ended
  repeat' split
  all_goals simp

theorem Lex.act_len (l : Lex) (x : UInt8) : (l.act x).2.length ≤ 2 := by
  unfold Lex.act
  split
  · unfold Lex.text
    repeat' split
    all_goals simp
  · split
    · unfold Lex.word
      repeat' split
      all_goals simp
    · split
      · unfold Lex.number
        dsimp only
        repeat' split
        all_goals
          simp only [List.length_append, List.length_nil]
          first
          | omega
          | exact Nat.le_trans (Nat.add_le_add (Lex.ended_len _) (Lex.between_len _ _)) (Nat.le_refl _)
          | exact Nat.le_trans (Lex.between_len _ _) (by decide)
          | exact Nat.le_trans (Lex.ended_len _) (by decide)
          | (have h2 := Lex.between_len l x
             omega)
      · have := Lex.between_len l x
        omega

theorem Lex.step_len (l : Lex) (x : UInt8) : (l.step x).2.1.length ≤ 2 := by
  have := Lex.act_len l x
  unfold Lex.step
  repeat' split
  all_goals simp
  omega

theorem Lex.fin_len (l : Lex) : l.fin.2.1.length ≤ 2 := by
  have := Lex.ended_len l
  unfold Lex.fin
  repeat' split
  all_goals simp
  omega

section
variable {p : Jin} {b : Nat} {h : Own.Heap} {w : World}

/-- The parts behind what the lexer told. -/
theorem on_parts (hf : p.Fits) (he : p.e = 0) (O : Lex × List Tok × Nat) (hO : O.1.Fits) (hn : O.2.1.length ≤ 2) {mv : Value} {hm hl : Own.Heap} (hs : Own.Slc 4 (p.maps.map Value.bool) mv hm)
    (hw : Own.Has w (hl ++ hm)) (w1 : World) (v : Value) (hv hl' : Own.Heap) (s1 : Own.Slk 4 165 O.2.1.length (tokCells O.2.1) v hv)
    (i1 : O.1.Is b [.int .i64 (p.depth : Int), mv, .int .i64 (p.next : Int), .int .i64 (p.e : Int)] hl') (t1 : Own.Turn hl (hv ++ hl') w w1) :
    Calls Tryz.prog 62 #[.pointer (some ⟨b, 0, none⟩), v, .int .i64 (O.2.2 : Int)] w1 (JinTells ((p.on O.1).parts O.2.1 O.2.2) b (hl ++ hm) w) := by
  have T1 : Own.Turn (hl ++ hm) (hv ++ (hl' ++ hm)) w w1 := by
    have := t1.frame hw
    rwa [List.append_assoc] at this
  refine (parts_any (p := p.on O.1) ⟨mv, hm, hl', hs, i1, rfl⟩ (hf.on hO) he O.2.1 v hv s1 T1.has O.2.2 (by omega)).mono ?_
  rintro e w2 ⟨v2, hv2, h2, rfl, s2, i2, t2⟩
  exact ⟨v2, hv2, h2, rfl, s2, i2, T1.trans t2⟩

set_option maxRecDepth 100000 in
set_option maxHeartbeats 2000000 in
theorem jstep_any (hi : p.Is b h) (hw : Own.Has w h) (hf : p.Fits) (x : UInt8) :
    Calls Tryz.prog 93 #[.pointer (some ⟨b, 0, none⟩), .int .u8 (x.toNat : Int)] w (JinTells (p.step x) b h w) := by
  obtain ⟨c26, -⟩ := hi.e_cell hw
  have HW := Lib.hid hw
  by_cases he : p.e = 0
  · obtain ⟨mv, hm, hl, hs, il, rfl⟩ := hi
    have HP := Lib.hid (show p.step x = (p.on (p.l.step x).1).parts (p.l.step x).2.1 (p.l.step x).2.2 by unfold Jin.step; rw [if_neg (by omega)])
    have HL := Lib.hid (lstep_any il hw.left hf.l x)
    have HQ := Lib.hid (on_parts (b := b) hf he (p.l.step x) (hf.l.step x).1 (Lex.step_len _ _) hs hw)
    generalize p.l.step x = O at HP HL HQ
    generalize p.step x = PS at HP ⊢
    rw [he] at c26
    clear hw hf hs il he
    go_enter Tryz.func93, Tryz.ntmps93
    go_wp2_with (fail)
    refine HL.out.mono ?_
    rintro e1 w1 ⟨v, hv, hl', rfl, s1, i1, t1⟩
    have HR := Lib.hid (HQ.out w1 v hv hl' s1 i1 t1)
    rw [← HP.out] at HR
    clear s1 i1 t1
    go_wp2_with (fail)
    refine HR.out.mono ?_
    rintro e2 w2 ⟨v2, hv2, h2, rfl, s2, i2, t2⟩
    go_wp2
    go_ret2
    exact ⟨v2, hv2, h2, rfl, s2, i2, t2⟩
  · have HP := Lib.hid (show p.step x = (p, [], p.e) by unfold Jin.step; rw [if_pos he])
    have hmb : ((p.e : Int) != 0) = true := by simp; omega
    have HI := Lib.hid hi
    generalize p.step x = PS at HP ⊢
    clear hi hw hf he
    go_enter Tryz.func93, Tryz.ntmps93
    go_wp2_with (fail)
    go_quiet (fail)
    go_wp2
    go_ret2
    rw [HP.out]
    exact ⟨_, [], h, rfl, .bare _ rfl, HI.out, (Own.Turn.refl HW.out).drewN _⟩

set_option maxRecDepth 100000 in
set_option maxHeartbeats 2000000 in
theorem jfin_any (hi : p.Is b h) (hw : Own.Has w h) (hf : p.Fits) :
    Calls Tryz.prog 48 #[.pointer (some ⟨b, 0, none⟩)] w (JinTells p.fin b h w) := by
  obtain ⟨c26, -⟩ := hi.e_cell hw
  have HW := Lib.hid hw
  by_cases he : p.e = 0
  · obtain ⟨mv, hm, hl, hs, il, rfl⟩ := hi
    obtain ⟨O, hO⟩ : ∃ O, O = p.l.fin := ⟨_, rfl⟩
    have HP := Lib.hid (show p.fin = if ((p.on O.1).parts O.2.1 O.2.2).2.2 = 0 ∧ ((p.on O.1).parts O.2.1 O.2.2).1.next ≠ 6 then (⟨((p.on O.1).parts O.2.1 O.2.2).1.l, ((p.on O.1).parts O.2.1 O.2.2).1.depth, ((p.on O.1).parts O.2.1 O.2.2).1.maps, ((p.on O.1).parts O.2.1 O.2.2).1.next, 3⟩, ((p.on O.1).parts O.2.1 O.2.2).2.1, 3) else (((p.on O.1).parts O.2.1 O.2.2).1, ((p.on O.1).parts O.2.1 O.2.2).2.1, ((p.on O.1).parts O.2.1 O.2.2).1.e) by
      unfold Jin.fin; rw [if_neg (by omega), hO])
    have HL := Lib.hid (lfin_any il hw.left hf.l)
    have HQ := Lib.hid (on_parts (b := b) hf he O (by rw [hO]; exact hf.l.fin.1) (by rw [hO]; exact Lex.fin_len _) hs hw)
    rw [← hO] at HL
    generalize p.fin = PS at HP ⊢
    generalize (p.on O.1).parts O.2.1 O.2.2 = R at HP HQ
    rw [he] at c26
    clear hw hf hs il he hO
    go_enter Tryz.func48, Tryz.ntmps48
    go_wp2_with (fail)
    refine HL.out.mono ?_
    rintro e1 w1 ⟨v, hv, hl', rfl, s1, i1, t1⟩
    have HR := Lib.hid (HQ.out w1 v hv hl' s1 i1 t1)
    clear s1 i1 t1
    go_wp2_with (fail)
    refine HR.out.mono ?_
    rintro e2 w2 ⟨v2, hv2, h2, rfl, s2, i2, t2⟩
    have S2 := Lib.hid s2
    have I2 := Lib.hid i2
    have T2 := Lib.hid t2
    have cn := i2.next_cell t2.has.right
    obtain ⟨ce, fe⟩ := i2.e_cell t2.has.right
    obtain ⟨l2, ps, e⟩ := R
    simp only at HP S2 I2 T2 cn ce
    clear s2 i2 t2
    by_cases hc : e = 0 ∧ l2.next ≠ 6
    · obtain ⟨rfl, hn⟩ := hc
      have hnb : ((l2.next : Int) != 6) = true := by simp; omega
      obtain ⟨h3, i3, t3⟩ := I2.out.e_set (Own.Turn.refl T2.out.has.right) 3
      have I3 := Lib.hid i3
      have T3 := Lib.hid (T2.out.trans (t3.behind T2.out.has))
      have ce3 := (i3.e_cell t3.has).1
      have HP2 := Lib.hid (HP.out.trans (if_pos ⟨rfl, hn⟩))
      clear i3 t3
      go_wp2_with (fail)
      go_quiet (fail)
      go_wp2
      go_ret2
      rw [HP2.out]
      exact ⟨_, hv2, h3, rfl, S2.out, I3.out, T3.out.drewN _⟩
    · have HP2 := Lib.hid (HP.out.trans (if_neg hc))
      by_cases h0 : e = 0
      · subst h0
        have hn : (l2.next : Int) = 6 := by
          by_cases h6 : l2.next = 6
          · omega
          · exact absurd ⟨rfl, h6⟩ hc
        rw [hn] at cn
        clear hc
        go_wp2_with (fail)
        go_quiet (fail)
        go_wp2
        go_ret2
        rw [HP2.out]
        exact ⟨_, hv2, h2, rfl, S2.out, I2.out, T2.out.drewN _⟩
      · have hb : ((e : Int) == 0) = false := by rw [beq_eq_false_iff_ne]; omega
        clear hc
        go_wp2_with (fail)
        go_quiet (fail)
        go_wp2
        go_ret2
        rw [HP2.out]
        exact ⟨_, hv2, h2, rfl, S2.out, I2.out, T2.out.drewN _⟩
  · have HP := Lib.hid (show p.fin = (p, [], p.e) by unfold Jin.fin; rw [if_pos he])
    have hmb : ((p.e : Int) != 0) = true := by simp; omega
    have HI := Lib.hid hi
    generalize p.fin = PS at HP ⊢
    clear hi hw hf he
    go_enter Tryz.func48, Tryz.ntmps48
    go_wp2_with (fail)
    go_quiet (fail)
    go_wp2
    go_ret2
    rw [HP.out]
    exact ⟨_, [], h, rfl, .bare _ rfl, HI.out, (Own.Turn.refl HW.out).drewN _⟩
end
end Pip
end Go.Proofs.YthnbpnfaghjamaaGreat

/- The pipe's readers and writers as sums; bounds of the way through; parts one behind the other. No walk. -/
namespace Go.Proofs.YthnbpnfaghjamaaGreat
namespace Pip
open Json (Part Wr)

/-! readers -/
def Reader.Fits : Reader → Nat → Prop
  | .json p, _ => p.Fits
  | .cbor p, n => p.Fits n
  | .pack p, n => p.Fits n

theorem Reader.Fits.mono {r : Reader} {n m : Nat} (h : r.Fits n) (k : n ≤ m) : r.Fits m := by
  cases r with
  | json p => exact h
  | cbor p => exact Cin.Fits.mono h k
  | pack p => exact Pin.Fits.mono h k

/-- What a reader tells is within bounds. -/
structure Reader.Good (o : Reader × List Part × Nat) (n : Nat) : Prop where
  fits : o.1.Fits n
  fine : ∀ x ∈ o.2.1, Fine x
  few : o.2.1.length ≤ 18

theorem Jin.parts_len : ∀ (l : List Tok) (p : Jin) (e : Nat), (p.parts l e).2.1.length ≤ l.length
  | [], p, e => Nat.le_refl _
  | t :: l, p, e => by
    unfold Jin.parts
    split
    · exact Nat.zero_le _
    · have h1 := Jin.parts_len l (p.token t).1 e
      have h2 : (p.token t).2.toList.length ≤ 1 := by cases (p.token t).2 <;> simp
      simp only [List.length_append, List.length_cons]
      omega

theorem Jin.step_len (p : Jin) (b : UInt8) : (p.step b).2.1.length ≤ 2 := by
  unfold Jin.step
  split
  · exact Nat.zero_le _
  · exact Nat.le_trans (Jin.parts_len _ _ _) (Lex.step_len _ _)

theorem Jin.fin_len (p : Jin) : p.fin.2.1.length ≤ 2 := by
  unfold Jin.fin
  split
  · exact Nat.zero_le _
  · have h := Nat.le_trans (Jin.parts_len p.l.fin.2.1 (p.on p.l.fin.1) p.l.fin.2.2) (Lex.fin_len _)
    dsimp only
    split <;> exact h

theorem Reader.good_step {r : Reader} {n : Nat} (h : r.Fits n) (b : UInt8) : Reader.Good (r.step b) (n + 1) := by
  cases r with
  | json p =>
    have h : p.Fits := h
    exact ⟨(h.step b).1, h.step_fine b, Nat.le_trans (Jin.step_len p b) (by decide)⟩
  | cbor p =>
    have h : p.Fits n := h
    have g := (Cin.good_step h b).1
    exact ⟨g.fits, g.fine, g.few⟩
  | pack p =>
    have h : p.Fits n := h
    have g := (Pin.good_step h b).1
    exact ⟨g.fits, g.fine, g.few⟩

theorem Reader.good_fin {r : Reader} {n : Nat} (h : r.Fits n) : Reader.Good r.fin n := by
  cases r with
  | json p =>
    have h : p.Fits := h
    exact ⟨h.fin.1, h.fin_fine, Nat.le_trans (Jin.fin_len p) (by decide)⟩
  | cbor p => exact ⟨h, (fun x hx => by cases hx), Nat.zero_le _⟩
  | pack p => exact ⟨h, (fun x hx => by cases hx), Nat.zero_le _⟩

theorem Reader.Fits.new (f : Int) (d : Nat) (h : d ≤ 16) : (Reader.new f d).Fits 0 := by
  unfold Reader.new
  split
  · exact Jin.Fits.new d h
  · split
    · exact Cin.Fits.new d h
    · exact Pin.Fits.new d h

/-! writers -/
def Writer.kind : Writer → Nat
  | .json _ => 1
  | .cbor _ => 2
  | .pack _ => 3

/-- How deep, how many parts. -/
def Writer.Fits : Writer → Nat → Prop
  | .json w, n => w.opened.length ≤ n ∧ ∀ c ∈ w.opened, c.parts ≤ n
  | .cbor w, n => w.Fits n
  | .pack w, n => w.Fits n

theorem Writer.Fits.mono {w : Writer} {n m : Nat} (h : w.Fits n) (k : n ≤ m) : w.Fits m := by
  cases w with
  | json p => exact ⟨Nat.le_trans h.1 k, fun c hc => Nat.le_trans (h.2 c hc) k⟩
  | cbor p => exact Cw.Fits.mono h k
  | pack p => exact Cw.Fits.mono h k

theorem Writer.kind_step (text : Part → List UInt8) (w : Writer) (p : Part) : (w.step text p).2.2.kind = w.kind := by
  cases w <;> rfl

theorem Wr_fits_step {w : Wr} {n : Nat} (h : w.opened.length ≤ n ∧ ∀ c ∈ w.opened, c.parts ≤ n) (text : Part → List UInt8) (p : Part) : (w.step text p).2.2.opened.length ≤ n + 1 ∧ ∀ c ∈ (w.step text p).2.2.opened, c.parts ≤ n + 1 := by
  have h' : w.opened.length ≤ n + 1 ∧ ∀ c ∈ w.opened, c.parts ≤ n + 1 := ⟨Nat.le_succ_of_le h.1, fun c hc => Nat.le_succ_of_le (h.2 c hc)⟩
  have hd : ∀ x ∈ w.opened.dropLast, x.parts ≤ n + 1 := fun x hx => h'.2 x ((List.dropLast_sublist _).subset hx)
  have hlen : w.opened.dropLast.length ≤ n := by have := h.1; simp; omega
  unfold Wr.step
  split
  · exact h'
  · cases p with
    | close =>
      dsimp only
      split
      · exact h'
      · split
        · exact h'
        · exact ⟨by show w.opened.dropLast.length ≤ _; omega, hd⟩
    | _ =>
      dsimp only
      split
      · first
        | exact ⟨Nat.zero_le _, fun c hc => by cases hc⟩
        | exact ⟨by simp, fun c hc => by rw [List.mem_singleton.1 hc]; exact Nat.zero_le _⟩
      · rename_i c hc
        have hm : c ∈ w.opened := List.mem_of_getLast? hc
        have hcn := h.2 c hm
        have hpos : 0 < w.opened.length := List.length_pos_of_mem hm
        have hd1 := h.1
        split
        · exact h'
        · refine ⟨by simp; omega, fun x hx => ?_⟩
          simp only [List.mem_append, List.mem_singleton] at hx
          rcases hx with hx | hx
          all_goals first
            | exact hd x hx
            | (subst hx; show c.parts + 1 ≤ _; omega)
            | skip
          all_goals first
            | (rcases hx with hx | hx <;> first | exact hd x hx | (subst hx; show c.parts + 1 ≤ _; omega))
            | (subst hx; exact Nat.zero_le _)

theorem Writer.Fits.step {w : Writer} {n : Nat} (h : w.Fits n) (text : Part → List UInt8) (p : Part) (hp : Fine p) : (w.step text p).2.2.Fits (n + 1) := by
  cases w with
  | json p => exact Wr_fits_step h text _
  | cbor p => exact Cw.Fits.cbor h _ hp
  | pack p => exact Cw.Fits.pack h _ hp

theorem Writer.Fits.new (f : Int) : (Writer.new f).Fits 0 := by
  unfold Writer.new
  split
  · exact ⟨Nat.le_refl _, fun c hc => by cases hc⟩
  · split
    · exact Cw.Fits.new
    · exact Cw.Fits.new

theorem Writer.some_snoc (text : Part → List UInt8) (l : List Part) (p : Part) : ∀ w : Writer, w.some text (l ++ [p]) = if (w.some text l).2.1 ≠ 0 then w.some text l else ((w.some text l).1 ++ ((w.some text l).2.2.step text p).1, ((w.some text l).2.2.step text p).2) := by
  induction l with
  | nil =>
    intro w
    by_cases h : (w.step text p).2.1 = 0
    · simp [Writer.some, h, Prod.ext_iff]
    · simp [Writer.some, h]
  | cons x l ih =>
    intro w
    by_cases h : (w.step text x).2.1 = 0
    · have h0 : ∀ r, w.some text (x :: r) = ((w.step text x).1 ++ ((w.step text x).2.2.some text r).1, ((w.step text x).2.2.some text r).2) := fun r => by rw [Writer.some, if_neg (by simp [h])]
      rw [List.cons_append, h0, h0, ih]
      split
      · rfl
      · simp
    · have h0 : ∀ r, w.some text (x :: r) = ((w.step text x).1, (w.step text x).2.1, (w.step text x).2.2) := fun r => by rw [Writer.some, if_pos h]
      rw [List.cons_append, h0, h0, if_pos h]

theorem Writer.some_kind (text : Part → List UInt8) : ∀ (l : List Part) (w : Writer), (w.some text l).2.2.kind = w.kind
  | [], w => rfl
  | p :: l, w => by
    unfold Writer.some
    split
    · exact Writer.kind_step text w p
    · exact (Writer.some_kind text l _).trans (Writer.kind_step text w p)

theorem Writer.Fits.some (text : Part → List UInt8) : ∀ (l : List Part) {w : Writer} {n : Nat}, w.Fits n → (∀ p ∈ l, Fine p) → (w.some text l).2.2.Fits (n + l.length)
  | [], w, n, h, _ => h
  | p :: l, w, n, h, hl => by
    have h1 := h.step text p (hl p (List.mem_cons_self ..))
    unfold Writer.some
    split
    · exact h1.mono (by simp only [List.length_cons]; omega)
    · exact (Writer.Fits.some text l h1 fun q hq => hl q (List.mem_cons_of_mem _ hq)).mono (by simp only [List.length_cons]; omega)

/-! the pipe -/
def Pp.heldLen (p : Pp) : Nat := match p.hold with | none => 0 | some s => s.held.length

structure Pp.Fits (p : Pp) (n : Nat) : Prop where
  input : p.input.Fits n
  hold : ∀ s, p.hold = some s → s.Fits
  output : ∃ m, p.output.Fits m ∧ m + p.heldLen ≤ n
  kind : p.hold.isSome = (p.output.kind == 3)

theorem Pp.Fits.mono {p : Pp} {n m : Nat} (h : p.Fits n) (k : n ≤ m) : p.Fits m :=
  ⟨h.input.mono k, h.hold, by obtain ⟨j, h1, h2⟩ := h.output; exact ⟨j, h1, by omega⟩, h.kind⟩

theorem Pp.Fits.out {p : Pp} {n : Nat} (h : p.Fits n) : p.output.Fits n := by
  obtain ⟨j, h1, h2⟩ := h.output
  exact h1.mono (by omega)

theorem Pp.Fits.one {p : Pp} {n : Nat} (h : p.Fits n) (text : Part → List UInt8) (v : Part) (hv : Fine v) : (p.one text v).1.Fits (n + 1) := by
  obtain ⟨j, h1, h2⟩ := h.output
  have hk := h.kind
  unfold Pp.heldLen at h2
  unfold Pp.one
  cases hh : p.hold with
  | none =>
    rw [hh] at h2 hk
    simp only at h2 ⊢
    exact ⟨h.input.mono (Nat.le_succ _), (fun s hs => by cases hs), ⟨j + 1, h1.some text [v] fun q hq => by rw [List.mem_singleton.1 hq]; exact hv, by show j + 1 + 0 ≤ n + 1; omega⟩, by simp only [Writer.some_kind]; exact hk⟩
  | some s =>
    rw [hh] at h2 hk
    simp only at h2 ⊢
    have g := (h.hold s hh).step v hv
    have hf := g.few
    split
    · exact ⟨h.input.mono (Nat.le_succ _), (fun x hx => by cases hx; exact g.fits), ⟨j, h1, by show j + (s.step v).1.held.length ≤ n + 1; omega⟩, hk⟩
    · exact ⟨h.input.mono (Nat.le_succ _), (fun x hx => by cases hx; exact g.fits), ⟨j + (s.step v).2.1.length, h1.some text _ g.fine, by show j + (s.step v).2.1.length + (s.step v).1.held.length ≤ n + 1; omega⟩, by simp only [Writer.some_kind]; exact hk⟩

/-- The pipe behind the first parts, and what was written. -/
def Pp.ahead (text : Part → List UInt8) : Pp → List Part → Pp × List UInt8
  | p, [] => (p, [])
  | p, v :: l => (((p.one text v).1.ahead text l).1, (p.one text v).2 ++ ((p.one text v).1.ahead text l).2)

theorem Pp.ahead_snoc (text : Part → List UInt8) (l : List Part) (v : Part) : ∀ p : Pp, p.ahead text (l ++ [v]) = (((p.ahead text l).1.one text v).1, (p.ahead text l).2 ++ ((p.ahead text l).1.one text v).2) := by
  induction l with
  | nil => intro p; simp [Pp.ahead]
  | cons x l ih => intro p; simp [Pp.ahead, ih]

theorem Pp.write_ahead (text : Part → List UInt8) (l : List Part) (e k : Nat) (p : Pp) (hk : ∀ j, j < k → (p.ahead text (l.take (j + 1))).1.e = 0) (hkl : k ≤ l.length) :
    p.write text l e = (((p.ahead text (l.take k)).1.write text (l.drop k) e).1, (p.ahead text (l.take k)).2 ++ ((p.ahead text (l.take k)).1.write text (l.drop k) e).2.1, ((p.ahead text (l.take k)).1.write text (l.drop k) e).2.2) := by
  induction k generalizing p l with
  | zero => simp [Pp.ahead]
  | succ k ih =>
    cases l with
    | nil => simp at hkl
    | cons t l =>
      have h0 : (p.one text t).1.e = 0 := by
        have := hk 0 (by omega)
        simpa [Pp.ahead] using this
      have := ih l (p.one text t).1 (fun j hj => by
        have := hk (j + 1) (by omega)
        simpa [Pp.ahead] using this) (by simp at hkl; omega)
      rw [Pp.write, if_neg (by simp [h0]), this]
      simp [Pp.ahead]

theorem Pp.Fits.ahead (text : Part → List UInt8) : ∀ (l : List Part) {p : Pp} {n : Nat}, p.Fits n → (∀ v ∈ l, Fine v) → (p.ahead text l).1.Fits (n + l.length)
  | [], p, n, h, _ => h
  | v :: l, p, n, h, hl => (Pp.Fits.ahead text l (h.one text v (hl v (List.mem_cons_self ..))) fun q hq => hl q (List.mem_cons_of_mem _ hq)).mono (by simp only [List.length_cons]; omega)

theorem Pp.Fits.write (text : Part → List UInt8) (e : Nat) : ∀ (l : List Part) {p : Pp} {n : Nat}, p.Fits n → (∀ v ∈ l, Fine v) → (p.write text l e).1.Fits (n + l.length)
  | [], p, n, h, _ => ⟨h.input, h.hold, h.output, h.kind⟩
  | v :: l, p, n, h, hl => by
    have h1 := h.one text v (hl v (List.mem_cons_self ..))
    unfold Pp.write
    split
    · exact h1.mono (by simp only [List.length_cons]; omega)
    · exact (Pp.Fits.write text e l h1 fun q hq => hl q (List.mem_cons_of_mem _ hq)).mono (by simp only [List.length_cons]; omega)

theorem Pp.Fits.on {p : Pp} {n m : Nat} (h : p.Fits n) (k : n ≤ m) {r : Reader} (hr : r.Fits m) (o : Bool) : (Pp.mk r p.output p.hold o p.e).Fits m := by
  obtain ⟨j, h1, h2⟩ := h.output
  exact ⟨hr, h.hold, ⟨j, h1, Nat.le_trans h2 k⟩, h.kind⟩

theorem Pp.Fits.step {p : Pp} {n : Nat} (h : p.Fits n) (text : Part → List UInt8) (b : UInt8) : (p.step text b).1.Fits (n + 19) := by
  unfold Pp.step
  split
  · exact h.mono (by omega)
  · have g := Reader.good_step h.input b
    have := g.few
    exact ((h.on (Nat.le_succ n) g.fits p.over).write text _ _ g.fine).mono (by omega)

theorem Pp.Fits.fin {p : Pp} {n : Nat} (h : p.Fits n) (text : Part → List UInt8) : (p.fin text).1.Fits (n + 19) := by
  unfold Pp.fin
  split
  · exact h.mono (by omega)
  · have g := Reader.good_fin h.input
    have := g.few
    exact ((h.on (Nat.le_refl n) g.fits true).write text _ _ g.fine).mono (by omega)

theorem Pp.Fits.new (s : Setup) (hr : right s = true) : (Pp.new s).Fits 0 := by
  unfold right at hr
  simp only [Bool.and_eq_true, decide_eq_true_eq] at hr
  obtain ⟨⟨⟨⟨⟨⟨⟨⟨⟨r1, r2⟩, r3⟩, r4⟩, r5⟩, r6⟩, r7⟩, r8⟩, r9⟩, r10⟩ := hr
  refine ⟨Reader.Fits.new _ _ (by omega), ?_, ?_, ?_⟩
  · intro t ht
    unfold Pp.new at ht
    simp only at ht
    split at ht
    · cases ht; exact Stg.Fits.new _ (by omega)
    · cases ht
  · refine ⟨0, Writer.Fits.new _, ?_⟩
    unfold Pp.heldLen Pp.new
    simp only
    split
    · exact Nat.le_refl _
    · rename_i t ht
      split at ht
      · cases ht; exact Nat.le_refl _
      · cases ht
  · unfold Pp.new Writer.new
    simp only
    by_cases h3 : s.to = 3
    · rw [if_pos h3, if_neg (by omega), if_neg (by omega)]; rfl
    · rw [if_neg h3]
      split
      · rfl
      · rw [if_pos (by omega)]; rfl

/-- The stage tells nothing where it errs. -/
theorem Stg.err_none (s : Stg) (v : Part) (h : (s.step v).2.2 ≠ 0) : (s.step v).2.1 = [] := by
  unfold Stg.step at h ⊢
  split
  · rfl
  · split
    · rfl
    · split
      · rename_i h1 h2 h3; rw [if_neg h1, if_neg h2, if_pos h3] at h; exact absurd rfl h
      · split
        · rename_i h1 h2 h3 h4
          rw [if_neg h1, if_neg h2, if_neg h3, if_pos h4] at h
          unfold Stg.close at h ⊢
          split
          · rfl
          · rename_i c hc
            rw [hc] at h
            dsimp only at h ⊢
            split
            · rfl
            · rename_i h5; rw [if_neg h5] at h; exact absurd rfl h
        · rfl
end Pip
end Go.Proofs.YthnbpnfaghjamaaGreat

/- jsonin.Parser: Held, New. -/
namespace Go.Proofs.YthnbpnfaghjamaaGreat
open Go.RowKit
open Json (Part)
namespace Pip
section
variable {p : Jin} {b : Nat} {h : Own.Heap} {w : World}

set_option maxRecDepth 100000 in
set_option maxHeartbeats 2000000 in
theorem jheld_any (hi : p.Is b h) (hw : Own.Has w h) (hf : p.Fits) :
    Calls Tryz.prog 92 #[.pointer (some ⟨b, 0, none⟩)] w fun e w' => e = .returned (.int .i64 (p.held : Int)) ∧ Own.Turn h h w w' := by
  obtain ⟨c26, -⟩ := hi.e_cell hw
  have HW := Lib.hid hw
  by_cases he : p.e = 0
  · have HP := Lib.hid (show p.held = p.l.held + p.maps.length by unfold Jin.held; rw [if_neg (by omega)])
    have hB := hf.l.held
    have hM : p.maps.length ≤ 16 := Nat.le_trans hf.maps hf.depth
    obtain ⟨mv, hm, hl, hs, il, rfl⟩ := hi
    have HL := Lib.hid (fun n => lheld_any il (hw.left.drewN n))
    have HL0 := Lib.hid (lheld_any il hw.left)
    obtain ⟨a, c, rfl⟩ := hs.len
    rw [List.length_map] at *
    obtain ⟨hpo, pp, sv, hb, hp, hB2, rfl⟩ := il
    have c24 := hw.left.cell b _ _ (List.mem_cons_self ..) 24 _ rfl
    generalize p.l.held = L at HP HL HL0 hB
    generalize p.held = PH at HP ⊢
    generalize p.maps.length = M at *
    rw [he] at c26
    clear hw hf hs he hp hB2 hpo
    go_enter Tryz.func92, Tryz.ntmps92
    go_wp2_with (fail)
    go_region_with (go_at_call 94; (first | refine (HL.out _).mono ?_ | refine HL0.out.mono ?_); rintro e W ⟨rfl, rfl⟩)
    all_goals go_wp2
    all_goals go_ret
    all_goals exact ⟨by rw [HP.out]; exact congrArg (fun z => Ending.returned (.int .i64 z)) (show IntKind.i64.wrap ((L : Int) + (M : Int)) = ((L + M : Nat) : Int) by rw [IntKind.wrap_i64]; omega), (Own.Turn.refl HW.out).drewN _⟩
  · have HP := Lib.hid (show p.held = 0 by unfold Jin.held; rw [if_pos he])
    have hmb : ((p.e : Int) != 0) = true := by simp; omega
    generalize p.held = PH at HP ⊢
    clear hi hw hf he
    go_enter Tryz.func92, Tryz.ntmps92
    go_wp2
    go_ret
    exact ⟨by rw [HP.out]; rfl, Own.Turn.refl HW.out⟩
end

set_option maxRecDepth 100000 in
set_option maxHeartbeats 2000000 in
theorem jnew_any (d : Nat) (h1 : 1 ≤ d) (h16 : d ≤ 16) (w : World) :
    Calls Tryz.prog 36 #[.int .i64 (d : Int)] w fun e w' => ∃ b h, e = .returned (.pointer (some ⟨b, 0, none⟩)) ∧ (Jin.new d).Is b h ∧ Own.Turn [] h w w' := by
  have hI := Lib.hid (show (Jin.new d).Is w.heap.size (Own.row w.heap.size 122 ((Jin.new d).l.cells (.pointer none) (.slice none 0 0) ++ [.int .i64 (d : Int), .slice none 0 0, .int .i64 0, .int .i64 0]) :: []) from
    ⟨.slice none 0 0, [], [_], .bare _ rfl, ⟨rfl, _, _, [], .inl rfl, .none rfl, rfl⟩, rfl⟩)
  have hT := Lib.hid ((Own.Turn.refl (Own.Has.nil w)).alloc (.cells ((Jin.new d).l.cells (.pointer none) (.slice none 0 0) ++ ([.int .i64 (d : Int), .slice none 0 0, .int .i64 0, .int .i64 0] : List Value)).toArray 122))
  have l1 : ¬ (d : Int) < 1 := by omega
  have l2 : ¬ 16 < (d : Int) := by omega
  have l3 : (d : Int) ≤ 16 := by omega
  clear h1 h16
  go_enter Tryz.func36, Tryz.ntmps36
  go_wp2
  go_ret
  exact ⟨_, rfl, _, hI.out, hT.out⟩
end Pip
end Go.Proofs.YthnbpnfaghjamaaGreat

/- cborin.Core: a byte of a text, or of bytes. -/
namespace Go.Proofs.YthnbpnfaghjamaaGreat
open Go.RowKit
open Json (Part)
namespace Pip

section
variable {c : Core} {T : TypeId} {b : Nat} {post : List Value} {h : Own.Heap} {w : World}

/-- The check of a text steps. -/
theorem Core.Is.check (hi : c.Is T b post h) (hw : Own.Has w h) (x : UInt8) (hl : c.c.lack ≤ 3) :
    Calls Tryz.prog 114 #[.pointer (some ⟨b, 8, none⟩), .int .u8 (x.toNat : Int)] w fun e w' => e = .returned (.bool (c.c.step x).2) ∧ ∃ h', (c.with_ c.word c.chunks c.lack c.s (c.c.step x).1).Is T b post h' ∧ Own.Turn h h' w w' := by
  obtain ⟨ov, sv, ho, hs, h1, h2, rfl⟩ := hi
  have ha : At.Is w b T [.int .i64 (c.depth : Int), ov, .bool c.done, .int .i64 (c.e : Int), .bool c.word, .bool c.chunks, .int .i64 (c.lack : Int), sv] c.c.enc post := hw.is3 (List.mem_cons_self ..)
  refine (Esc.cstep_any w b T _ post c.c x hl ha).mono ?_
  rintro e w' ⟨rfl, h3, h4⟩
  exact ⟨rfl, _, ⟨ov, sv, ho, hs, h1, h2, rfl⟩, Own.Turn.only hw h3 h4⟩

theorem Core.Is.whole (hi : c.Is T b post h) (hw : Own.Has w h) :
    Calls Tryz.prog 106 #[.pointer (some ⟨b, 8, none⟩)] w fun e w' => e = .returned (.bool c.c.whole) ∧ w = w' := by
  obtain ⟨ov, sv, ho, hs, h1, h2, rfl⟩ := hi
  have ha : At.Is w b T [.int .i64 (c.depth : Int), ov, .bool c.done, .int .i64 (c.e : Int), .bool c.word, .bool c.chunks, .int .i64 (c.lack : Int), sv] c.c.enc post := hw.is3 (List.mem_cons_self ..)
  refine (Esc.cwhole_any w b T _ post c.c ha).mono ?_
  rintro e w' ⟨rfl, h3⟩
  exact ⟨rfl, h3⟩

set_option maxRecDepth 100000 in
set_option maxHeartbeats 4000000 in
theorem cbyte_any {n : Nat} (hi : c.Is T b post h) (hw : Own.Has w h) (hf : c.Fits n) (hn : n ≤ 1000000) (hl : 0 < c.lack) (x : UInt8) :
    Calls Tryz.prog 125 #[.pointer (some ⟨b, 0, none⟩), .int .u8 (x.toNat : Int)] w (CoreDoes (c.byte x) T b post h w) := by
  obtain ⟨i0, hi0, e0⟩ := Option.map_eq_some_iff.1 infoU8
  simp only [Prod.mk.injEq] at e0
  obtain ⟨hz, hsz, hby⟩ := e0
  have Hi := Lib.hid (And.intro hi0 (And.intro hz (And.intro hsz hby)))
  have hs200 := hf.s
  have hck := hf.c
  have hFd := hf.fed hl x
  have HP0 : c.byte x = if c.word = true ∧ ((c.c.step x).2 = false ∨ (c.lack = 1 ∧ (c.chk x).whole = false)) then (c.fed x).fail 9 else if 1 < c.lack ∨ c.chunks = true then (c.fed x, []) else (c.fed x).text := rfl
  have hchk : c.chk x = if c.word then (c.c.step x).1 else c.c := rfl
  have hfed : c.fed x = c.with_ c.word c.chunks (c.lack - 1) (c.s ++ [x]) (c.chk x) := rfl
  obtain ⟨oa, oc, sa, sc, ho, hs, rfl, h1, h2⟩ := hi.opened_
  have c7 := hw.cell b _ _ (List.mem_cons_self ..) 7 _ rfl
  have hW : Own.Has w (hs ++ (Own.row b T (c.cells (.slice oa c.opened.length oc) (.slice sa c.s.length sc) ++ post) :: ho)) := (Own.Has.swap (a := _ :: ho) hw)
  have HW := Lib.hid hW
  have HS := Lib.hid h2
  have hM : c.s.length < 200 := by omega
  have HMl := Lib.hid (u8s_length c.s)
  have Hpm := Lib.hid (show (Own.row b T (c.cells (.slice oa c.opened.length oc) (.slice sa c.s.length sc) ++ post) :: (ho ++ hs)).Perm (hs ++ (Own.row b T (c.cells (.slice oa c.opened.length oc) (.slice sa c.s.length sc) ++ post) :: ho)) from
    List.perm_append_comm (l₁ := _ :: ho))
  obtain ⟨K, hK⟩ : ∃ K, K = c.lack - 1 := ⟨_, rfl⟩
  have hKl : c.lack = K + 1 := by omega
  have HIs := Lib.hid (fun (sv : Value) (hs' : Own.Heap) (h2' : Own.Slc 5 (u8s (c.s ++ [x])) sv hs') => (show (c.with_ c.word c.chunks K (c.s ++ [x]) c.c).Is T b post (Own.row b T ((c.with_ c.word c.chunks K (c.s ++ [x]) c.c).cells (.slice oa c.opened.length oc) sv ++ post) :: (ho ++ hs')) from
    ⟨_, sv, ho, hs', h1, h2', rfl⟩))
  rw [hfed, ← hK] at hFd HP0
  have h1K : (1 < c.lack ∨ c.chunks = true) ↔ (0 < K ∨ c.chunks = true) := by
    rw [hKl]
    constructor
    · rintro (h | h)
      · exact .inl (by omega)
      · exact .inr h
    · rintro (h | h)
      · exact .inl (by omega)
      · exact .inr h
  have h1L : c.lack = 1 ↔ K = 0 := by omega
  simp only [h1K, h1L] at HP0
  generalize c.byte x = O at HP0 ⊢
  have HPf := Lib.hid (fun (hwd : c.word = false) => (show (O = if 0 < K ∨ c.chunks = true then (c.with_ c.word c.chunks K (c.s ++ [x]) c.c, []) else (c.with_ c.word c.chunks K (c.s ++ [x]) c.c).text) ∧ (c.with_ c.word c.chunks K (c.s ++ [x]) c.c).Fits n by
    have hk : c.chk x = c.c := by rw [hchk, hwd]; rfl
    rw [hk] at HP0 hFd
    exact ⟨by rw [HP0, if_neg (by rw [hwd]; rintro ⟨h, _⟩; cases h)], hFd⟩))
  have HPt := Lib.hid (fun (hwd : c.word = true) => (show (O = if (c.c.step x).2 = false ∨ (K = 0 ∧ (c.c.step x).1.whole = false) then (c.with_ c.word c.chunks K (c.s ++ [x]) (c.c.step x).1).fail 9 else if 0 < K ∨ c.chunks = true then (c.with_ c.word c.chunks K (c.s ++ [x]) (c.c.step x).1, []) else (c.with_ c.word c.chunks K (c.s ++ [x]) (c.c.step x).1).text) ∧ (c.with_ c.word c.chunks K (c.s ++ [x]) (c.c.step x).1).Fits n by
    have hk : c.chk x = (c.c.step x).1 := by rw [hchk, hwd]; rfl
    rw [hk] at HP0 hFd
    refine ⟨?_, hFd⟩
    by_cases hq : (c.c.step x).2 = false ∨ (K = 0 ∧ (c.c.step x).1.whole = false)
    · rw [HP0, if_pos ⟨hwd, hq⟩, if_pos hq]
    · rw [HP0, if_neg (fun h => hq h.2), if_neg hq]))
  have fin : ∀ P : Core × List Part, O = P → ∀ (e : Ending) (w' : World), CoreDoes P T b post (Own.row b T (c.cells (.slice oa c.opened.length oc) (.slice sa c.s.length sc) ++ post) :: (ho ++ hs)) w e w' → CoreDoes O T b post (Own.row b T (c.cells (.slice oa c.opened.length oc) (.slice sa c.s.length sc) ++ post) :: (ho ++ hs)) w e w' := fun P hP e w' hd => hP ▸ hd
  have Fin := Lib.hid fin
  have Hn := Lib.hid hn
  have Hck := Lib.hid hck
  have HKl := Lib.hid hKl
  have hkm : ((K + 1 : Nat) : Int) - 1 = (K : Int) := by omega
  have hK8 : K < 200 := by omega
  clear fin hi hw hf h1 h2 hi0 hz hsz hby hW hs200 hck hFd HP0 hchk hfed hl hK hn h1K h1L hKl
  go_enter Tryz.func125, Tryz.ntmps125
  go_wp2_with (at_builtin; go_loud (refine Own.wpList_append_oneAt w.heap.size rfl rfl _ _ 47 rfl 5 i0 (.int .u8 0) 1 Tryz.underlying47 Hi.out.1 Hi.out.2.1 Hi.out.2.2.1 Hi.out.2.2.2 rfl (.slice sa c.s.length sc) (u8s c.s) c.s.length HMl.out hs _ rfl HS.out HW.out _ rfl rfl ?c1 ?c2 ?_))
  case c1 => simp only [maxLen]; omega
  case c2 => omega
  intro ad' c' h' w1 hs' ht'
  have S1 := Lib.hid (show Own.Slc 5 (u8s (c.s ++ [x])) (.slice ad' (c.s.length + 1) c') h' by rw [u8s_append]; exact hs')
  have T1 := Lib.hid (show Own.Turn (Own.row b T (c.cells (.slice oa c.opened.length oc) (.slice sa c.s.length sc) ++ post) :: (ho ++ hs)) (Own.row b T (c.cells (.slice oa c.opened.length oc) (.slice sa c.s.length sc) ++ post) :: (ho ++ h')) w w1 from
    ht'.perm Hpm.out.symm (List.perm_append_comm (l₂ := _ :: ho)))
  have g7 := T1.out.has.free b _ _ (List.mem_cons_self ..) 7
  have g6 := T1.out.has.free b _ _ (List.mem_cons_self ..) 6
  have d6 := T1.out.has.cell b _ _ (List.mem_cons_self ..) 6 _ rfl
  have d7 := T1.out.has.cell b _ _ (List.mem_cons_self ..) 7 _ rfl
  have d4 := T1.out.has.cell b _ _ (List.mem_cons_self ..) 4 _ rfl
  have d5 := T1.out.has.cell b _ _ (List.mem_cons_self ..) 5 _ rfl
  rw [HKl.out] at d6
  have T2 := Lib.hid (show Own.Turn (Own.row b T (c.cells (.slice oa c.opened.length oc) (.slice sa c.s.length sc) ++ post) :: (ho ++ hs)) (Own.row b T ((c.with_ c.word c.chunks K (c.s ++ [x]) c.c).cells (.slice oa c.opened.length oc) (.slice ad' (c.s.length + 1) c') ++ post) :: (ho ++ h')) w
      ((w1.setCell ⟨b, 7, none⟩ (.slice ad' (c.s.length + 1) c')).setCell ⟨b, 6, none⟩ (.int .i64 (K : Int))) from (T1.out.put 7 (.slice ad' (c.s.length + 1) c') _ rfl).put 6 (.int .i64 (K : Int)) _ rfl)
  have I2 := Lib.hid (HIs.out _ _ S1.out)
  have HCk := Lib.hid (I2.out.check T2.out.has x Hck.out)
  clear hs' ht' HIs S1 T1 HS HW HMl Hpm
  cases hwd : c.word
  · obtain ⟨hP, hF⟩ := HPf.out hwd
    rw [hwd] at d4
    have HTx := Lib.hid (ctext_any I2.out T2.out.has hF Hn.out)
    clear HPf HPt hwd hF HCk
    rcases Nat.eq_zero_or_pos K with h0 | h0
    · subst h0
      cases hch : c.chunks
      · have HP := Lib.hid (hP.trans (if_neg (by rw [hch]; simp)))
        rw [hch] at d5
        clear hP hch
        go_wp2_with (fail)
        refine HTx.out.mono ?_
        rintro e w2 ⟨v, hv, h2, rfl, hs, i2, t2⟩
        have HI := Lib.hid i2
        have HT2 := Lib.hid (T2.out.trans t2)
        have HS := Lib.hid hs
        clear i2 t2 hs HTx T2
        go_wp2
        go_ret
        exact Fin.out _ HP.out _ _ ⟨_, hv, h2, rfl, HS.out, HI.out, HT2.out⟩
      · have HP := Lib.hid (hP.trans (if_pos (.inr hch)))
        rw [hch] at d5
        clear hP hch HTx
        go_wp2_with (fail)
        go_ret
        exact Fin.out _ HP.out _ _ (.nought rfl I2.out T2.out)
    · have HP := Lib.hid (hP.trans (if_pos (.inl h0)))
      have h0I : (0 : Int) < (K : Int) := by omega
      clear hP HTx
      go_wp2_with (fail)
      go_ret
      exact Fin.out _ HP.out _ _ (.nought rfl I2.out T2.out)
  · obtain ⟨hP, hF⟩ := HPt.out hwd
    rw [hwd] at d4
    have HFF := Lib.hid hF
    clear HPf HPt hwd hF
    rw [show (c.with_ c.word c.chunks K (c.s ++ [x]) c.c).c = c.c from rfl] at HCk
    generalize c.c.step x = sx at hP HFF HCk
    obtain ⟨k2, ok⟩ := sx
    simp only at hP HFF
    have HPh := Lib.hid hP
    clear hP
    go_wp2_with (fail)
    refine HCk.out.mono ?_
    rintro e w2 ⟨rfl, h2, i2, t2⟩
    have HI := Lib.hid (show (c.with_ c.word c.chunks K (c.s ++ [x]) k2).Is T b post h2 from i2)
    have T3 := Lib.hid (T2.out.trans t2)
    obtain ⟨-, -, -, e5, e6⟩ := HI.out.cell T3.out.has
    replace e5 : w2.cell? ⟨b, 5, none⟩ = some (.bool c.chunks) := e5
    replace e6 : w2.cell? ⟨b, 6, none⟩ = some (.int .i64 (K : Int)) := e6
    clear i2 t2 HCk T2 I2 d4 d5 d6 d7 g6 g7
    have HFl := Lib.hid (cfail_any HI.out T3.out.has 9)
    have HTx := Lib.hid (ctext_any HI.out T3.out.has HFF.out Hn.out)
    have HWh := Lib.hid (HI.out.whole T3.out.has)
    rw [show (c.with_ c.word c.chunks K (c.s ++ [x]) k2).c = k2 from rfl] at HWh
    cases ok
    · have HP := Lib.hid (HPh.out.trans (if_pos (.inl rfl)))
      clear HPh HTx HWh
      go_wp2_with (fail)
      refine HFl.out.mono ?_
      rintro e w3 ⟨v, hv, h3, rfl, hs, i3, t3⟩
      have HI3 := Lib.hid i3
      have HT3 := Lib.hid (T3.out.trans t3)
      have HS := Lib.hid hs
      clear i3 t3 hs
      go_wp2
      go_ret
      exact Fin.out _ HP.out _ _ ⟨_, hv, h3, rfl, HS.out, HI3.out, HT3.out⟩
    · rcases Nat.eq_zero_or_pos K with h0 | h0
      · subst h0
        generalize k2.whole = wh at HPh HWh
        go_wp2_with (fail)
        refine HWh.out.mono ?_
        rintro e w3 ⟨rfl, rfl⟩
        cases wh
        · have HP := Lib.hid (HPh.out.trans (if_pos (by simp)))
          clear HPh HTx HWh
          go_wp2_with (fail)
          refine HFl.out.mono ?_
          rintro e w3 ⟨v, hv, h3, rfl, hs, i3, t3⟩
          have HI3 := Lib.hid i3
          have HT3 := Lib.hid (T3.out.trans t3)
          have HS := Lib.hid hs
          clear i3 t3 hs
          go_wp2
          go_ret
          exact Fin.out _ HP.out _ _ ⟨_, hv, h3, rfl, HS.out, HI3.out, HT3.out⟩
        · have hP := HPh.out.trans (if_neg (by simp))
          clear HWh HFl HPh
          cases hch : c.chunks
          · have HP := Lib.hid (hP.trans (if_neg (by rw [hch]; simp)))
            rw [hch] at e5
            clear hP hch
            go_wp2_with (fail)
            refine HTx.out.mono ?_
            rintro e w3 ⟨v, hv, h3, rfl, hs, i3, t3⟩
            have HI3 := Lib.hid i3
            have HT3 := Lib.hid (T3.out.trans t3)
            have HS := Lib.hid hs
            clear i3 t3 hs
            go_wp2
            go_ret
            exact Fin.out _ HP.out _ _ ⟨_, hv, h3, rfl, HS.out, HI3.out, HT3.out⟩
          · have HP := Lib.hid (hP.trans (if_pos (.inr hch)))
            rw [hch] at e5
            clear hP hch HTx
            go_wp2_with (fail)
            go_ret
            exact Fin.out _ HP.out _ _ (.nought rfl HI.out T3.out)
      · have HP := Lib.hid ((HPh.out.trans (if_neg (by simp; omega))).trans (if_pos (.inl h0)))
        have h0I : (0 : Int) < (K : Int) := by omega
        have h0b : ((K : Int) == 0) = false := by rw [beq_eq_false_iff_ne]; omega
        clear HPh HTx HWh HFl
        go_wp2_with (fail)
        go_ret
        exact Fin.out _ HP.out _ _ (.nought rfl HI.out T3.out)
end
end Pip
end Go.Proofs.YthnbpnfaghjamaaGreat
