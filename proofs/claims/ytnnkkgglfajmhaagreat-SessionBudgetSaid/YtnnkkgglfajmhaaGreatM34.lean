/- Texts of the walk, joined. -/
import Derived.Test.YtnnkkgglfajmhaaGreatM21
import Derived.Test.YtnnkkgglfajmhaaGreatM27
import Derived.Test.YtnnkkgglfajmhaaGreatM30
import Derived.Test.YtnnkkgglfajmhaaGreatM31
import Derived.Test.YtnnkkgglfajmhaaGreatM33
import Derived.Lib.FrozenHead2
import Derived.Stop.Asserts
set_option maxRecDepth 100000
set_option maxHeartbeats 8000000
namespace Go.Proofs.YtnnkkgglfajmhaaGreat
section
open Go.RowKit
open Json (Part Wr)
namespace Bld
variable {w : World} {b : Nat} {p sv : Value}
section
variable {N : Nat} {T : TypeId} {pre post : List Value}
theorem ws_at2 (lies : liesAt Tryz.prog Tryz.prog.depth T (N / Tryz.prog.cellsOf T) pre.length 77 1 = true) (hN : (pre ++ [p, sv] ++ post).length = N)
  {l : List UInt8} {hb : Own.Heap} (s : ByteArray) (hB : Own.Buf 5 l sv hb) (hw : Own.Has w (Own.row b T (pre ++ [p, sv] ++ post) :: hb)) (hp : p = .pointer none ∨ p = .pointer (some ⟨b, pre.length, none⟩)) (hl : l.length + s.size ≤ 1000000000) :
  Calls Tryz.prog 45 #[.pointer (some ⟨b, pre.length, none⟩), .string s] w fun e w' => e = .returned (.tuple #[.int .i64 s.size, .nilIface]) ∧
   ∃ sv' hb', Own.Buf 5 (l ++ s.data.toList) sv' hb' ∧ Own.Turn (Own.row b T (pre ++ [p, sv] ++ post) :: hb) (Own.row b T (pre ++ [.pointer (some ⟨b, pre.length, none⟩), sv'] ++ post) :: hb') w w' := by
 have hi := hw.is3 mcs
 have HC := hhh (copyCheck_at lies hN hi hp)
 have HW := hhh hw
 obtain ⟨i0, hii, hz0, hz1, hz2⟩ := info_parts infoByte
 have HL := hhh hl
 clear hw lies hN hl
 go_enter Tryz.func45, Tryz.ntmps45
 go_wp2_with (fail)
 refine HC.out.mono ?_
 rintro e w1 ⟨rfl, h1, o1⟩
 have t1 := Own.Turn.only HW.out h1 o1
 have c1 := h1.cell 1 _ rfl
 have HI1 := hhh h1
 clear h1 o1
 go_wp2_with (at_builtin; refine Own.wpList_append_buf rfl _ _ 51 9 rfl 5 i0 Tryz.underlying51 Tryz.underlying9 hii hz0 hz1 hz2 _ l hb [_] rfl hB (t1.has.perm (List.perm_append_comm (l₁ := [_]))) s rfl ?c3 ?c4 ?_)
 case c3 => have := HL.out; unfold maxLen; omega
 case c4 => have := HL.out; omega
 intro ad' n' c' h' w2 hn hB' t2
 have t2' := t2.perm List.perm_append_comm List.perm_append_comm
 have eqr : ∀ x y : Value, pre ++ x :: y :: post = pre ++ [x, y] ++ post := fun x y => by simp
 rw [eqr] at t2'
 have t3 := t1.trans t2'
 have hi2 := t3.has.is3 mcs
 have f1 := hi2.free (pre.length + 1)
 have c12 := hi2.cell 1 _ rfl
 clear hi hn eqr
 go_wp2
 go_ret2
 refine ⟨rfl, _, _, hB', ?_⟩
 have h4 := hi2.set 1 (.slice ad' n' c') (Nat.le_refl _)
 exact t3.trans (Own.Turn.only t3.has h4 ((At.Only.refl b _).set _ _))
end
theorem ws_own {l : List UInt8} {hb : Own.Heap} (s : ByteArray) (hB : Own.Buf 5 l sv hb) (hw : Own.Has w (Own.row b 77 [p, sv] :: hb)) (hp : p = .pointer none ∨ p = .pointer (some ⟨b, 0, none⟩)) (hl : l.length + s.size ≤ 1000000000) :
  Calls Tryz.prog 45 #[.pointer (some ⟨b, 0, none⟩), .string s] w fun e w' => e = .returned (.tuple #[.int .i64 s.size, .nilIface]) ∧
   ∃ sv' hb', Own.Buf 5 (l ++ s.data.toList) sv' hb' ∧ Own.Turn (Own.row b 77 [p, sv] :: hb) (Own.row b 77 [.pointer (some ⟨b, 0, none⟩), sv'] :: hb') w w' :=
 ws_at2 (pre := []) (post := []) liesB rfl s hB hw hp hl
theorem string_own {l : List UInt8} {hb : Own.Heap} (hB : Own.Buf 5 l sv hb) (hw : Own.Has w (Own.row b 77 [p, sv] :: hb)) :
  Calls Tryz.prog 46 #[.pointer (some ⟨b, 0, none⟩)] w fun e w' => e = .returned (.string ⟨l.toArray⟩) ∧
   ∃ hb', Own.Buf 5 l sv hb' ∧ Own.Turn (Own.row b 77 [p, sv] :: hb) (Own.row b 77 [p, sv] :: hb') w w' :=
 string_at (pre := []) (post := []) hB hw
end Bld
namespace Pip
def Reader.Is : Reader → Nat → Own.Heap → Prop
 | .json p, b, h => p.Is b h
 | .cbor p, b, h => p.Is b h
 | .pack p, b, h => p.Is b h
def Writer.Is : Writer → Nat → Own.Heap → Prop
 | .json w, b, h => w.Is b h
 | .cbor w, b, h => Cb.Is w b h
 | .pack w, b, h => Pk.Is w b h
def HoldIs : Option Stg → Value → Own.Heap → Prop
 | none, v, h => v = .pointer none ∧ h = []
 | some s, v, h => ∃ b, v = .pointer (some ⟨b, 0, none⟩) ∧ s.Is b h
def Reader.ty : Reader → TypeId
 | .json _ => 86
 | .cbor _ => 91
 | .pack _ => 93
def Writer.ty : Writer → TypeId
 | .json _ => 101
 | .cbor _ => 105
 | .pack _ => 109
def Writer.fn : Writer → Nat
 | .json _ => 154
 | .cbor _ => 182
 | .pack _ => 189
def ptr (b : Nat) : Value := .pointer (some ⟨b, 0, none⟩)
def Pp.cells (p : Pp) (rb wb : Nat) (hv : Value) : List Value :=
 [.iface p.input.ty (.pointer (some ⟨rb, 0, none⟩)), .iface p.output.ty (.pointer (some ⟨wb, 0, none⟩)), hv, .bool p.over, .int .i64 (p.e : Int)]
def Pp.At (p : Pp) (b rb wb : Nat) (hv : Value) (h : Own.Heap) : Prop :=
 ∃ hr hw hh, h = Own.row b 65 (p.cells rb wb hv) :: (hr ++ (hw ++ hh)) ∧ p.input.Is rb hr ∧ p.output.Is wb hw ∧ HoldIs p.hold hv hh
def Pp.Is (p : Pp) (b : Nat) (h : Own.Heap) : Prop := ∃ rb wb hv, p.At b rb wb hv h
def PpDoes (o : Pp × List UInt8 × Nat) (b : Nat) (h : Own.Heap) (w : World) (e : Ending) (w' : World) : Prop :=
 ∃ h', e = .returned (.tuple #[.string ⟨o.2.1.toArray⟩, .int .i64 (o.2.2 : Int)]) ∧ o.1.Is b h' ∧ Own.Turn h h' w w'
theorem _root_.Go.Proofs.YtnnkkgglfajmhaaGreat.Own.Slc.stands {e : TypeId} {xs : List Value} {v : Value} {h : Own.Heap} (s : Own.Slc e xs v h) (hn : 0 < xs.length) :
  ∃ b off c, v = .slice (some ⟨b, off, none⟩) xs.length c ∧ ∀ w, Own.Has w h → ∀ j u, xs[j]? = some u → w.cell? ⟨b, off + j, none⟩ = some u := by
 cases s with
 | bare a h0 => subst h0; cases hn
 | row b pre spare hm =>
  refine ⟨b, pre.length, _, rfl, fun w hw j u hj => ?_⟩
  refine hw.cell b e (pre ++ (xs ++ spare)) mcs (pre.length + j) u ?_
  rw [List.getElem?_append_right (by omega), Nat.add_sub_cancel_left, List.getElem?_append_left (List.getElem?_eq_some_iff.1 hj).1]
  exact hj
structure Wok (k M : Nat) (ok : Part → Prop) (text : Part → List UInt8) (B : Nat) (Tb : World → Prop) : Prop where
 step : ∀ (W : Writer), W.kind = k → ∀ (wb n : Nat) (h : Own.Heap) (w : World), W.Is wb h → Own.Has w h → W.Fits n → n ≤ 100000 → (∀ x ∈ Own.blocks h, B ≤ x) → Tb w → ∀ p, Fine p → ok p →
  Calls Tryz.prog W.fn #[.pointer (some ⟨wb, 0, none⟩), p.val] w fun e w' => e = .returned (.tuple #[.string ⟨(W.step text p).1.toArray⟩, .int .i64 ((W.step text p).2.1 : Int)]) ∧
   ∃ h', (W.step text p).2.2.Is wb h' ∧ Own.Turn h h' w w'
 len : ∀ (W : Writer), W.kind = k → ∀ p, Fine p → ok p → (W.step text p).1.length ≤ M
 of : ∀ u v, Tb u → Below B u v → Tb v
 stage : k = 3 → ∀ q, ok q → ∀ p, ok p
 room : M * 3000 ≤ 100000000
theorem Writer.some_one (text : Part → List UInt8) (W : Writer) (p : Part) : W.some text [p] = W.step text p := by
 unfold Writer.some
 split
 ·rfl
 ·rename_i h
  have : (W.step text p).2.1 = 0 := by simpa using h
  simp only [Writer.some, List.append_nil]
  rw [← this]
section
variable {k M B : Nat} {ok : Part → Prop} {text : Part → List UInt8} {Tb : World → Prop}
theorem Wok.some_len (H : Wok k M ok text B Tb) : ∀ (l : List Part) (W : Writer), W.kind = k → (∀ p ∈ l, Fine p ∧ ok p) → (W.some text l).1.length ≤ M * l.length
 | [], W, _, _ => Nat.zero_le _
 | p :: l, W, hk, hl => by
  have hp := hl p mcs
  have h1 := H.len W hk p hp.1 hp.2
  have h2 := Wok.some_len H l (W.step text p).2.2 ((Writer.kind_step text W p).trans hk) fun q hq => hl q (mcm _ hq)
  have e : M * (l.length + 1) = M * l.length + M := Nat.mul_succ ..
  unfold Writer.some
  split
  ·rw [List.length_cons, e]; simp only; omega
  ·rw [List.length_append, List.length_cons, e]; omega
theorem Pp.one_kind (text : Part → List UInt8) (p : Pp) (v : Part) : (p.one text v).1.output.kind = p.output.kind := by
 unfold Pp.one
 split
 ·exact Writer.some_kind text _ _
 ·split
  ·rfl
  ·exact Writer.some_kind text _ _
theorem Wok.one_len (H : Wok k M ok text B Tb) {p : Pp} {n : Nat} (hf : p.Fits n) (hk : p.output.kind = k) (v : Part) (hv : Fine v ∧ ok v) : (p.one text v).2.length + M * (p.one text v).1.heldLen ≤ M * (p.heldLen + 1) := by
 unfold Pp.one Pp.heldLen
 cases hh : p.hold with
 | none =>
  simp only
  have := H.some_len [v] p.output hk fun q hq => by rw [List.mem_singleton.1 hq]; exact hv
  simpa using this
 | some s =>
  have h3 : k = 3 := by have := hf.kind; rw [hh, hk] at this; simpa using this.symm
  have g := (hf.hold s hh).step v hv.1
  have hfew := g.few
  simp only
  split
  ·simp only [List.length_nil, Nat.zero_add]
   exact Nat.mul_le_mul_left _ (by omega)
  ·have := H.some_len (s.step v).2.1 p.output hk fun q hq => ⟨g.fine q hq, H.stage h3 v hv.2 q⟩
   have h2 : M * ((s.step v).2.1.length + (s.step v).1.held.length) ≤ M * (s.held.length + 1) := Nat.mul_le_mul_left _ hfew
   rw [Nat.mul_add] at h2
   simp only
   omega
theorem Wok.ahead_len (H : Wok k M ok text B Tb) : ∀ (l : List Part) {p : Pp} {n : Nat}, p.Fits n → p.output.kind = k → (∀ v ∈ l, Fine v ∧ ok v) → (p.ahead text l).2.length + M * (p.ahead text l).1.heldLen ≤ M * (p.heldLen + l.length)
 | [], p, n, _, _, _ => by simp [Pp.ahead]
 | v :: l, p, n, hf, hk, hl => by
  have hv := hl v mcs
  have h1 := H.one_len hf hk v hv
  have h2 := Wok.ahead_len H l (hf.one text v hv.1) ((Pp.one_kind text p v).trans hk) fun q hq => hl q (mcm _ hq)
  simp only [Pp.ahead, List.length_append, List.length_cons]
  rw [Nat.mul_add] at h1 h2
  rw [Nat.mul_add, Nat.mul_succ]
  omega
end
end Pip
end
end Go.Proofs.YtnnkkgglfajmhaaGreat
