/- base.Get: it returns what 'Base.get' says of its bytes. -/
import Derived.Test.YtpdkolhnahpncaaPut
import Derived.Test.YtpdkolhnahpncaaMem
namespace Go.Proofs.Ytpdkolhnahpncaa
open Go.RowKit
namespace Get

def ans (o : Option (List UInt8)) : Ending :=
  match o with
  | none => .returned (.tuple #[.string ⟨#[]⟩, .bool false])
  | some l => .returned (.tuple #[.string ⟨l.toArray⟩, .bool true])

theorem idxr (c : UInt8) (n : Int) (w : World) (h : c.toNat < 128) (hn : n = Base.val c) :
    Calls Try.prog 16 #[.string Put.signText, .int .i32 (c.toNat : Int)] w fun e w' => e = .returned (.int .i64 n) ∧ w = w' := by
  refine (Try.strings_IndexRune_ascii Put.signText (c.toNat : Int) w (by omega) (by omega)).mono ?_
  rintro e w' ⟨rfl, rfl⟩
  refine ⟨?_, rfl⟩
  subst hn
  simp only [Int.toNat_natCast, Base.val]
  congr
  simp

theorem ascii_signs : ∀ b ∈ Put.signText.data.toList, b.toNat < 128 := Base.signs_ascii

set_option maxHeartbeats 2000000 in
set_option maxRecDepth 100000 in
theorem any (s : ByteArray) (w : World) (hs : s.size ≤ 100000) :
    Calls Try.prog 10 #[.string s] w fun e w' => e = ans (Base.get s.data.toList) ∧ Below w.heap.size w w' := by
  obtain ⟨i0, hi, hz0, hz1, hz2⟩ := info_parts Bld.infoByte
  go_enter Try.func10, Try.ntmps10
  go_wp2
  go_loopw [4, 5, 6] (fun u v n wr => ∃ (k vn nn : Nat) (acc : List UInt8), k ≤ s.size ∧ v = .int .i64 vn ∧ n = .int .i64 nn ∧ nn = (6 * k) % 8 ∧ vn < 2 ^ nn ∧
      wr.ownsRow (w.heap.size + 1) 5 1 u acc.length (Lib.byteCells acc) ∧ wr.heap[w.heap.size]? = some (.stringIter s k) ∧ Below w.heap.size w wr ∧ acc.length ≤ k ∧
      Base.getGo (s.data.toList.drop k) vn nn acc = Base.getGo s.data.toList 0 0 []) (fun _ _ _ wr => s.size - wr.iterPos w.heap.size)
  case atStart =>
    refine ⟨0, 0, 0, [], by omega, rfl, rfl, by omega, by omega, World.ownsRow_nil _ _ _ _, ?_, (Below.refl _ w).alloc (Nat.le_refl _) _, by simp, by simp⟩
    exact World.iter_heap w s 0
  case round =>
    obtain ⟨k, vn, nn, acc, hk, rfl, rfl, hn, hv, hown, hit, hbw, hal, heq⟩ := hrel
    have hsz : w.heap.size < wr.heap.size := (Array.getElem?_eq_some_iff.1 hit).1
    by_cases hp : k < s.size
    · have hdrop : s.data.toList.drop k = s[k]'hp :: s.data.toList.drop (k + 1) := List.drop_eq_getElem_cons (by simpa using hp)
      have Hd := Lib.hid hdrop
      have Heq := Lib.hid heq
      have Hn := Lib.hid hn
      have Hv := Lib.hid hv
      clear hdrop heq hv
      by_cases ha : (s[k]'hp).toNat < 128
      · have hnx : ∀ ty, (Instr.next (.pointer (some ⟨w.heap.size, 0, none⟩)) true ty).run Try.prog wr = _ := fun ty => Lib.run_next_ascii_at wr w.heap.size s k ty hit hp ha
        have hit2 := Lib.iterAt_heap wr w.heap.size s k (k + 1) hit
        have hbw2 := Lib.below_iterAt hbw (k := w.heap.size) (by omega) s (k + 1)
        have hbw2z := hbw2.size
        rcases Base.val_or (s[k]'hp) with hneg | ⟨h0, h64, _⟩
        · go_wp2_with (fail)
          refine (idxr _ (-1) _ ha hneg.symm).mono ?_
          rintro e W1 ⟨rfl, rfl⟩
          go_wp2
          go_ret2
          refine ⟨?_, hbw2⟩
          have : Base.get s.data.toList = none := by
            rw [Base.get, ← Heq.out, Hd.out, Base.getGo_none _ _ _ _ _ (by omega)]
          rw [this]
          rfl
        · obtain ⟨d, hd⟩ := Int.eq_ofNat_of_zero_le h0
          have hd64 : d < 64 := by omega
          have hown2 := ownsRow_iterAt hown (k := w.heap.size) (by omega) s (k + 1)
          obtain ⟨x, hx⟩ : ∃ x : Nat, x = vn * 64 + d := ⟨_, rfl⟩
          have hvx : vn < 64 := Nat.lt_of_lt_of_le Hv.out (Nat.pow_le_pow_right (n := 2) (by decide) (show nn ≤ 6 by omega))
          have hor := Int64.or6 vn d (by omega) hd64
          rw [← hx] at hor
          have HD := Lib.hid hd
          have HX := Lib.hid hx
          clear hd hx h0 h64
          rcases (show k % 4 = 0 ∨ k % 4 = 1 ∨ k % 4 = 2 ∨ k % 4 = 3 by omega) with h4 | h4 | h4 | h4
          · obtain rfl : nn = 0 := by omega
            clear hn
            have H4 := Lib.hid h4
            clear h4
            have hvb := Hv.out
            have hxb : x < 64 := by have := HX.out; omega
            clear hvb
            have hma : bits .and .i64 (x : Int) 63 = (x : Int) := by
              rw [Int64.and63 x (by omega), Nat.mod_eq_of_lt hxb]
            go_wp2_with (fail)
            refine (idxr _ (d : Int) _ ha HD.out.symm).mono ?_
            generalize wr.iterAt w.heap.size s (k + 1) = W0 at *
            rintro e W1 ⟨rfl, rfl⟩
            go_wp2
            go_roundw
            case rel =>
              refine ⟨k + 1, x, 6, acc, by omega, rfl, rfl, by have := H4.out; omega, by omega, hown2, hit2, hbw2, by omega, ?_⟩
              rw [← Heq.out, Hd.out, Base.getGo_less _ _ _ _ _ (by have := HD.out; omega) (by decide), HD.out, Int.toNat_natCast, ← HX.out, Nat.mod_eq_of_lt (show x < 2 ^ (0 + 6) from hxb)]
            case measure =>
              simp only [World.iterPos, hit2, hit]
              omega
          · obtain rfl : nn = 6 := by omega
            clear hn
            have H4 := Lib.hid h4
            clear h4
            have hvb := Hv.out
            have hxb : x < 4096 := by have := HX.out; omega
            clear hvb
            obtain ⟨z, hz⟩ : ∃ z : Nat, z = x % 16 := ⟨_, rfl⟩
            have hma : bits .and .i64 (x : Int) 15 = (z : Int) := by
              have := Int64.andMask x 4 (by decide) (by omega)
              rw [hz, ← show x % 2 ^ 4 = x % 16 from rfl, ← this]; rfl
            have HZ := Lib.hid hz
            clear hz
            go_wp2_with (fail)
            refine (idxr _ (d : Int) _ ha HD.out.symm).mono ?_
            generalize wr.iterAt w.heap.size s (k + 1) = W0 at *
            rintro e W1 ⟨rfl, rfl⟩
            go_wp2_with (at_builtin; refine wpList_append_own _ rfl _ _ 30 rfl (w.heap.size + 1) 5 i0 (.int .u8 0) 1 1 Try.underlying30 hi hz0 hz1 hz2 rfl (by decide) _ _ _ rfl (hown2.alloc _) ⟨W0.heap.size, 0, none⟩ 1 1 [.int .u8 ((x : Int) / 16)] rfl rfl ?c11 ?c21 ?c31 ?c41 ?c51 ?_)
            case c11 =>
              intro j u hj
              match j, hj with
              | 0, hj => simp at hj; subst hj; simp [Addr.add]
            case c21 => intro u hu; simp at hu; subst hu; rfl
            case c31 => unfold maxLen; omega
            case c41 => omega
            case c51 => have := (Array.getElem?_eq_some_iff.1 hit2).1; simp; omega
            intro v' w2 hown' hgrow _
            have hit3 : w2.heap[w.heap.size]? = some (.stringIter s (k + 1)) := by
              have hl0 := (Array.getElem?_eq_some_iff.1 hit2).1
              rw [hgrow.block _ (by simp; omega) (fun e => by have := hown2.lt _ e.symm; omega), Below.heap_alloc _ _ _ hl0]
              exact hit2
            have hbw3 : Below w.heap.size w w2 := (hbw2.alloc hbw2.size _).grown hgrow (by have := hbw2.size; simp; omega) (fun q hq => by have := hown2.lt q hq; omega)
            clear hgrow
            go_wp2
            go_roundw
            case rel =>
              refine ⟨k + 1, z, 4, acc ++ [UInt8.ofNat (x / 16)], by omega, rfl, rfl, by have := H4.out; omega, by have := HZ.out; omega, ?_, hit3, hbw3, by simp; omega, ?_⟩
              · rw [Lib.byteCells_append, List.length_append]
                have e : Lib.byteCells [UInt8.ofNat (x / 16)] = [Value.int .u8 ((x : Int) / 16)] := by
                  simp only [Lib.byteCells, List.map_cons, List.map_nil, UInt8.toNat_ofNat', List.cons.injEq, Value.int.injEq, and_true, true_and]
                  omega
                rw [e]
                exact hown'
              · rw [← Heq.out, Hd.out, Base.getGo_more _ _ _ _ _ (by have := HD.out; omega) (by decide), HD.out, Int.toNat_natCast, ← HX.out, HZ.out]
            case measure =>
              simp only [World.iterPos, hit3, hit]
              omega
          · obtain rfl : nn = 4 := by omega
            clear hn
            have H4 := Lib.hid h4
            clear h4
            have hvb := Hv.out
            have hxb : x < 1024 := by have := HX.out; omega
            clear hvb
            obtain ⟨z, hz⟩ : ∃ z : Nat, z = x % 4 := ⟨_, rfl⟩
            have hma : bits .and .i64 (x : Int) 3 = (z : Int) := by
              have := Int64.andMask x 2 (by decide) (by omega)
              rw [hz, ← show x % 2 ^ 2 = x % 4 from rfl, ← this]; rfl
            have HZ := Lib.hid hz
            clear hz
            go_wp2_with (fail)
            refine (idxr _ (d : Int) _ ha HD.out.symm).mono ?_
            generalize wr.iterAt w.heap.size s (k + 1) = W0 at *
            rintro e W1 ⟨rfl, rfl⟩
            go_wp2_with (at_builtin; refine wpList_append_own _ rfl _ _ 30 rfl (w.heap.size + 1) 5 i0 (.int .u8 0) 1 1 Try.underlying30 hi hz0 hz1 hz2 rfl (by decide) _ _ _ rfl (hown2.alloc _) ⟨W0.heap.size, 0, none⟩ 1 1 [.int .u8 ((x : Int) / 4)] rfl rfl ?c12 ?c22 ?c32 ?c42 ?c52 ?_)
            case c12 =>
              intro j u hj
              match j, hj with
              | 0, hj => simp at hj; subst hj; simp [Addr.add]
            case c22 => intro u hu; simp at hu; subst hu; rfl
            case c32 => unfold maxLen; omega
            case c42 => omega
            case c52 => have := (Array.getElem?_eq_some_iff.1 hit2).1; simp; omega
            intro v' w2 hown' hgrow _
            have hit3 : w2.heap[w.heap.size]? = some (.stringIter s (k + 1)) := by
              have hl0 := (Array.getElem?_eq_some_iff.1 hit2).1
              rw [hgrow.block _ (by simp; omega) (fun e => by have := hown2.lt _ e.symm; omega), Below.heap_alloc _ _ _ hl0]
              exact hit2
            have hbw3 : Below w.heap.size w w2 := (hbw2.alloc hbw2.size _).grown hgrow (by have := hbw2.size; simp; omega) (fun q hq => by have := hown2.lt q hq; omega)
            clear hgrow
            go_wp2
            go_roundw
            case rel =>
              refine ⟨k + 1, z, 2, acc ++ [UInt8.ofNat (x / 4)], by omega, rfl, rfl, by have := H4.out; omega, by have := HZ.out; omega, ?_, hit3, hbw3, by simp; omega, ?_⟩
              · rw [Lib.byteCells_append, List.length_append]
                have e : Lib.byteCells [UInt8.ofNat (x / 4)] = [Value.int .u8 ((x : Int) / 4)] := by
                  simp only [Lib.byteCells, List.map_cons, List.map_nil, UInt8.toNat_ofNat', List.cons.injEq, Value.int.injEq, and_true, true_and]
                  omega
                rw [e]
                exact hown'
              · rw [← Heq.out, Hd.out, Base.getGo_more _ _ _ _ _ (by have := HD.out; omega) (by decide), HD.out, Int.toNat_natCast, ← HX.out, HZ.out]
            case measure =>
              simp only [World.iterPos, hit3, hit]
              omega
          · obtain rfl : nn = 2 := by omega
            clear hn
            have H4 := Lib.hid h4
            clear h4
            have hvb := Hv.out
            have hxb : x < 256 := by have := HX.out; omega
            clear hvb
            obtain ⟨z, hz⟩ : ∃ z : Nat, z = x % 1 := ⟨_, rfl⟩
            have hma : bits .and .i64 (x : Int) 0 = (z : Int) := by
              have := Int64.andMask x 0 (by decide) (by omega)
              rw [hz, ← show x % 2 ^ 0 = x % 1 from rfl, ← this]; rfl
            have HZ := Lib.hid hz
            clear hz
            go_wp2_with (fail)
            refine (idxr _ (d : Int) _ ha HD.out.symm).mono ?_
            generalize wr.iterAt w.heap.size s (k + 1) = W0 at *
            rintro e W1 ⟨rfl, rfl⟩
            go_wp2_with (at_builtin; refine wpList_append_own _ rfl _ _ 30 rfl (w.heap.size + 1) 5 i0 (.int .u8 0) 1 1 Try.underlying30 hi hz0 hz1 hz2 rfl (by decide) _ _ _ rfl (hown2.alloc _) ⟨W0.heap.size, 0, none⟩ 1 1 [.int .u8 ((x : Int))] rfl rfl ?c13 ?c23 ?c33 ?c43 ?c53 ?_)
            case c13 =>
              intro j u hj
              match j, hj with
              | 0, hj => simp at hj; subst hj; simp [Addr.add]
            case c23 => intro u hu; simp at hu; subst hu; rfl
            case c33 => unfold maxLen; omega
            case c43 => omega
            case c53 => have := (Array.getElem?_eq_some_iff.1 hit2).1; simp; omega
            intro v' w2 hown' hgrow _
            have hit3 : w2.heap[w.heap.size]? = some (.stringIter s (k + 1)) := by
              have hl0 := (Array.getElem?_eq_some_iff.1 hit2).1
              rw [hgrow.block _ (by simp; omega) (fun e => by have := hown2.lt _ e.symm; omega), Below.heap_alloc _ _ _ hl0]
              exact hit2
            have hbw3 : Below w.heap.size w w2 := (hbw2.alloc hbw2.size _).grown hgrow (by have := hbw2.size; simp; omega) (fun q hq => by have := hown2.lt q hq; omega)
            clear hgrow
            go_wp2
            go_roundw
            case rel =>
              refine ⟨k + 1, z, 0, acc ++ [UInt8.ofNat (x / 1)], by omega, rfl, rfl, by have := H4.out; omega, by have := HZ.out; omega, ?_, hit3, hbw3, by simp; omega, ?_⟩
              · rw [Lib.byteCells_append, List.length_append]
                have e : Lib.byteCells [UInt8.ofNat (x / 1)] = [Value.int .u8 ((x : Int))] := by
                  simp only [Lib.byteCells, List.map_cons, List.map_nil, UInt8.toNat_ofNat', List.cons.injEq, Value.int.injEq, and_true, true_and]
                  omega
                rw [e]
                exact hown'
              · rw [← Heq.out, Hd.out, Base.getGo_more _ _ _ _ _ (by have := HD.out; omega) (by decide), HD.out, Int.toNat_natCast, ← HX.out, HZ.out]
            case measure =>
              simp only [World.iterPos, hit3, hit]
              omega
      · have hh := decode_high s k hp (by omega)
        have hle := decode_le s k
        have hnx : ∀ ty, (Instr.next (.pointer (some ⟨w.heap.size, 0, none⟩)) true ty).run Try.prog wr = _ := fun ty => Lib.run_next_any_at wr w.heap.size s k ty hit hp
        have hbw2 := Lib.below_iterAt hbw (k := w.heap.size) (by omega) s (k + (Utf8.decode s k).2)
        go_wp2_with (fail)
        refine (Rune.none Put.signText _ _ ascii_signs (by decide) (by omega) (by omega)).mono ?_
        rintro e W1 ⟨rfl, b1⟩
        go_wp2
        go_ret2
        refine ⟨?_, hbw2.trans (b1.mono hbw2.size)⟩
        have : Base.get s.data.toList = none := by
          have := Base.val_high (s[k]'hp) (by omega)
          rw [Base.get, ← Heq.out, Hd.out, Base.getGo_none _ _ _ _ _ (by omega)]
        rw [this]
        rfl
    · have hnx : ∀ ty, (Instr.next (.pointer (some ⟨w.heap.size, 0, none⟩)) true ty).run Try.prog wr = _ := fun ty => Lib.run_next_end_at wr w.heap.size s k ty hit hp
      have hcv := Mem.run_str hown
      have hdrop : s.data.toList.drop k = [] := by
        apply List.drop_eq_nil_of_le
        have : s.data.toList.length = s.size := Array.length_toList
        omega
      rw [hdrop] at heq
      have Heq := Lib.hid heq
      clear heq hdrop hn hv
      by_cases hpe : Base.put acc = s.data.toList
      · have hb : (Base.put acc == s.toList) = true := by rw [Mem.toList_eq, hpe]; simp
        have Hpe := Lib.hid hpe
        clear hpe
        go_wp2_with (fail)
        refine (Put.any ⟨acc.toArray⟩ _ (by show acc.toArray.size ≤ _; rw [List.size_toArray]; omega)).mono ?_
        rintro e W1 ⟨rfl, b1⟩
        have hcv2 := Mem.run_str (Mem.owns_below hown b1)
        go_wp2
        go_ret2
        refine ⟨?_, hbw.trans (b1.mono hbw.size)⟩
        have H : Base.get s.data.toList = some acc := by
          have h0 := Heq.out
          simp only [Base.getGo] at h0
          rw [Base.get, ← h0]
          simp only []
          rw [if_pos Hpe.out]
        rw [H]
        rfl
      · have hb : (Base.put acc == s.toList) = false := by rw [Mem.toList_eq]; simpa using hpe
        have Hpe := Lib.hid hpe
        clear hpe
        go_wp2_with (fail)
        refine (Put.any ⟨acc.toArray⟩ _ (by show acc.toArray.size ≤ _; rw [List.size_toArray]; omega)).mono ?_
        rintro e W1 ⟨rfl, b1⟩
        have hcv2 := Mem.run_str (Mem.owns_below hown b1)
        go_wp2
        go_ret2
        refine ⟨?_, hbw.trans (b1.mono hbw.size)⟩
        have H : Base.get s.data.toList = none := by
          have h0 := Heq.out
          simp only [Base.getGo] at h0
          rw [Base.get, ← h0]
          simp only []
          rw [if_neg Hpe.out]
        rw [H]
        rfl

theorem of_none (s : ByteArray) (hs : s.size ≤ 100000) (h : Base.get s.data.toList = none) (w : World) :
    Calls Try.prog 10 #[.string s] w fun e w' => e = .returned (.tuple #[.string ⟨#[]⟩, .bool false]) ∧ Below w.heap.size w w' := by
  refine (any s w hs).mono ?_
  rintro e w' ⟨he, b⟩
  exact ⟨by rw [he, h]; rfl, b⟩

theorem of_some (s : ByteArray) (hs : s.size ≤ 100000) (l : List UInt8) (h : Base.get s.data.toList = some l) (w : World) :
    Calls Try.prog 10 #[.string s] w fun e w' => e = .returned (.tuple #[.string ⟨l.toArray⟩, .bool true]) ∧ Below w.heap.size w w' := by
  refine (any s w hs).mono ?_
  rintro e w' ⟨he, b⟩
  exact ⟨by rw [he, h]; rfl, b⟩
end Get
end Go.Proofs.Ytpdkolhnahpncaa
