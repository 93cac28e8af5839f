/- Texts of the walk, joined. -/
import Derived.Test.YtnnkkgglfajmhaaGreatM07
import Derived.Test.YtnnkkgglfajmhaaGreatM10
import Derived.Test.YtnnkkgglfajmhaaGreatM12
import Derived.Below
import Derived.Lib.Bytealg
set_option maxRecDepth 100000
set_option maxHeartbeats 8000000
namespace Go.Proofs.YtnnkkgglfajmhaaGreat
section
namespace Base
def signs : List UInt8 := [65, 66, 67, 68, 69, 70, 71, 72, 73, 74, 75, 76, 77, 78, 79, 80, 81, 82, 83, 84, 85, 86, 87, 88, 89, 90, 97, 98, 99, 100, 101, 102, 103, 104, 105, 106, 107, 108, 109, 110, 111, 112, 113, 114, 115, 116, 117, 118, 119, 120, 121, 122, 48, 49, 50, 51, 52, 53, 54, 55, 56, 57, 45, 95]
def sign (k : Nat) : UInt8 := signs.getD k 0
def emits (v : Nat) : Nat → List UInt8
 | n + 6 => sign (v / 2 ^ n % 64) :: emits v n
 | _ => []
def putGo : List UInt8 → Nat → Nat → List UInt8
 | [], v, n => if 0 < n then [sign (v * 2 ^ (6 - n) % 64)] else []
 | b :: l, v, n => emits (v * 256 + b.toNat) (n + 8) ++ putGo l ((v * 256 + b.toNat) % 2 ^ ((n + 8) % 6)) ((n + 8) % 6)
def put (l : List UInt8) : List UInt8 := putGo l 0 0
theorem sign_get (k : Nat) (h : k < 64) : signs[k]? = some (sign k) := by
 unfold sign
 rw [List.getD_eq_getElem?_getD]
 have : k < signs.length := h
 simp [List.getElem?_eq_getElem this]
theorem putGo0 (b : UInt8) (l : List UInt8) (v : Nat) : putGo (b :: l) v 0 = sign ((v * 256 + b.toNat) / 4 % 64) :: putGo l ((v * 256 + b.toNat) % 4) 2 := by
 simp [putGo, emits]
theorem putGo2 (b : UInt8) (l : List UInt8) (v : Nat) : putGo (b :: l) v 2 = sign ((v * 256 + b.toNat) / 16 % 64) :: putGo l ((v * 256 + b.toNat) % 16) 4 := by
 simp [putGo, emits]
theorem putGo4 (b : UInt8) (l : List UInt8) (v : Nat) : putGo (b :: l) v 4 = sign ((v * 256 + b.toNat) / 64 % 64) :: sign ((v * 256 + b.toNat) % 64) :: putGo l 0 0 := by
 simp [putGo, emits, Nat.mod_one]
def val (c : UInt8) : Int := Lib.indexByte signs c
def getGo : List UInt8 → Nat → Nat → List UInt8 → Option (List UInt8)
 | [], _, _, out => some out
 | c :: l, v, n, out =>
  if val c < 0 then none
  else if 2 ≤ n then getGo l ((v * 64 + (val c).toNat) % 2 ^ (n - 2)) (n - 2) (out ++ [UInt8.ofNat ((v * 64 + (val c).toNat) / 2 ^ (n - 2))])
  else getGo l ((v * 64 + (val c).toNat) % 2 ^ (n + 6)) (n + 6) out
def get (l : List UInt8) : Option (List UInt8) :=
 match getGo l 0 0 [] with
 | none => none
 | some out => if put out = l then some out else none
def len (n : Int) : Int := if n < 0 ∨ 1000000 < n then 0 else n / 3 * 4 + (n % 3 * 4 + 2) / 3
theorem put3 (a b c : UInt8) (l : List UInt8) : put (a :: b :: c :: l) =
  sign (a.toNat / 4 % 64) :: sign ((a.toNat % 4 * 256 + b.toNat) / 16 % 64) :: sign (((a.toNat % 4 * 256 + b.toNat) % 16 * 256 + c.toNat) / 64 % 64) :: sign (((a.toNat % 4 * 256 + b.toNat) % 16 * 256 + c.toNat) % 64) :: put l := by
 unfold put
 rw [putGo0, putGo2, putGo4, Nat.zero_mul, Nat.zero_add]
theorem put_length : ∀ l : List UInt8, (put l).length = (4 * l.length + 2) / 3
 | [] => rfl
 | [a] => by unfold put; rw [putGo0]; simp [putGo]
 | [a, b] => by unfold put; rw [putGo0, putGo2]; simp [putGo]
 | a :: b :: c :: l => by
  have := put_length l
  rw [put3]
  simp only [List.length_cons]
  omega
end Base
end
section
open Go.RowKit
namespace Put
def signText : ByteArray := ⟨Base.signs.toArray⟩
theorem sign_at (y : Nat) (hy : y < 64) (h : y < signText.size) : signText[y]'h = Base.sign y := by
 have h1 : Base.signs[y]? = some (Base.sign y) := Base.sign_get y hy
 have h2 : y < Base.signs.length := hy
 rw [List.getElem?_eq_getElem h2] at h1
 have h3 := Option.some.inj h1
 rw [← h3]
 rfl
theorem wb (B : Nat) (acc : List UInt8) (c : UInt8) (w : World) (h : Lib.IsBuilderF 77 5 B B (Lib.byteCells acc) w) (hlen : acc.length ≤ 10000000) (hBw : B ≤ w.heap.size) (n : Int) (hn : n = c.toNat) :
  Calls Tryz.prog 164 #[.pointer (some ⟨B, 0, none⟩), .int .u8 n] w fun e w' => e = .returned .nilIface ∧ Lib.IsBuilderF 77 5 B B (Lib.byteCells (acc ++ [c])) w' ∧ Below B w w' := by
 subst hn
 refine (Bld.writeByte B B _ _ w h (by rw [Lib.byteCells_length]; omega) hBw).mono ?_
 rintro e w' ⟨he, h1, h2, _⟩
 exact ⟨he, .inr (by rw [Lib.byteCells_append]; exact h1), h2⟩
theorem any (s : ByteArray) (w : World) (hs : s.size ≤ 1000000) :
  Calls Tryz.prog 160 #[.string s] w fun e w' => e = .returned (.string ⟨(Base.put s.data.toList).toArray⟩) ∧ Below w.heap.size w w' := by
 go_enter Tryz.func160, Tryz.ntmps160
 go_wp2
 go_loopw [4, 5, 9] (fun v n i wr => ∃ (k vn nn : Nat) (acc : List UInt8), i = .int .i64 k ∧ k ≤ s.size ∧ v = .int .i64 vn ∧ n = .int .i64 nn ∧ nn = 2 * (k % 3) ∧ vn < 2 ^ nn ∧
   Lib.IsBuilderF 77 5 w.heap.size w.heap.size (Lib.byteCells acc) wr ∧ Below w.heap.size w wr ∧ acc.length ≤ 2 * k ∧
   acc ++ Base.putGo (s.data.toList.drop k) vn nn = Base.put s.data.toList) (fun _ _ i _ => s.size - (intOf i).toNat)
 case atStart =>
  refine ⟨0, 0, 0, [], rfl, by omega, rfl, rfl, by omega, by omega, Lib.IsBuilderF.of (Lib.fresh_isBuilder _ _ w), (Below.refl _ w).alloc (Nat.le_refl _) _, by simp, by simp [Base.put]⟩
 case round =>
  obtain ⟨k, vn, nn, acc, rfl, hk, rfl, rfl, hn, hv, hI, hbw, hal, heq⟩ := hrel
  by_cases hlt : k < s.size
  ·have hc := (s[k]'hlt).toNat_lt
   have hv16 : vn < 16 := Nat.lt_of_lt_of_le hv (Nat.pow_le_pow_right (n := 2) (by decide) (show nn ≤ 4 by omega))
   obtain ⟨x, hx⟩ : ∃ x : Nat, x = vn * 256 + (s[k]'hlt).toNat := ⟨_, rfl⟩
   have hor := Int64.or8' vn (s[k]'hlt).toNat (by omega) hc
   rw [← hx] at hor
   have hx4 : x < 4096 := by omega
   have Hx := hhh hx
   have Heq := hhh heq
   have Hn := hhh hn
   have Hv := hhh hv
   clear hx heq hv
   have hBw : w.heap.size ≤ wr.heap.size := hbw.size
   have hdrop : s.data.toList.drop k = s[k]'hlt :: s.data.toList.drop (k + 1) := List.drop_eq_getElem_cons (by simpa using hlt)
   have Hd := hhh hdrop
   clear hdrop
   rcases (show k % 3 = 0 ∨ k % 3 = 1 ∨ k % 3 = 2 by omega) with h3 | h3 | h3
   ·rw [h3] at hn
    subst hn
    have H3 := hhh h3
    clear h3
    obtain ⟨y, hy⟩ : ∃ y : Nat, y = x / 4 % 64 := ⟨_, rfl⟩
    obtain ⟨z, hz⟩ : ∃ z : Nat, z = x % 4 := ⟨_, rfl⟩
    have han : bits .and .i64 ((x : Int) / 4) 63 = (y : Int) := by
     have := Int64.and63 (x / 4) (by omega)
     rw [hy, ← this]; rfl
    have hma : bits .and .i64 (x : Int) 3 = (z : Int) := by
     have := Int64.andMask x 2 (by decide) (by omega)
     rw [hz, ← show x % 2 ^ 2 = x % 4 from rfl, ← this]; rfl
    have hy6 : y < 64 := by omega
    have Hy := hhh hy
    have Hz := hhh hz
    clear hy hz
    go_wp2
    refine wp_loop_rounds 3 ?_
    rw [rounds_succ]
    go_wp2_with (fail)
    refine (wb w.heap.size acc (Base.sign y) wr hI (by omega) hBw _ (congrArg (fun u : UInt8 => (u.toNat : Int)) (sign_at y hy6 hy6))).mono ?_
    rintro e W1 ⟨rfl, h1, b1⟩
    go_wp2
    rw [rounds_succ]
    go_wp2
    go_roundw
    case rel =>
     refine ⟨k + 1, z, 2, acc ++ [Base.sign y], by go_num, by omega, rfl, rfl, by have := H3.out; omega, by have := Hz.out; omega, h1, hbw.trans b1, by simp; omega, ?_⟩
     rw [← Heq.out, Hd.out, Base.putGo0, ← Hx.out, ← Hy.out, ← Hz.out]
     simp
    case measure => simp [intOf]; omega
   ·rw [h3] at hn
    subst hn
    have H3 := hhh h3
    clear h3
    obtain ⟨y, hy⟩ : ∃ y : Nat, y = x / 16 % 64 := ⟨_, rfl⟩
    obtain ⟨z, hz⟩ : ∃ z : Nat, z = x % 16 := ⟨_, rfl⟩
    have han : bits .and .i64 ((x : Int) / 16) 63 = (y : Int) := by
     have := Int64.and63 (x / 16) (by omega)
     rw [hy, ← this]; rfl
    have hma : bits .and .i64 (x : Int) 15 = (z : Int) := by
     have := Int64.andMask x 4 (by decide) (by omega)
     rw [hz, ← show x % 2 ^ 4 = x % 16 from rfl, ← this]; rfl
    have hy6 : y < 64 := by omega
    have Hy := hhh hy
    have Hz := hhh hz
    clear hy hz
    go_wp2
    refine wp_loop_rounds 3 ?_
    rw [rounds_succ]
    go_wp2_with (fail)
    refine (wb w.heap.size acc (Base.sign y) wr hI (by omega) hBw _ (congrArg (fun u : UInt8 => (u.toNat : Int)) (sign_at y hy6 hy6))).mono ?_
    rintro e W1 ⟨rfl, h1, b1⟩
    go_wp2
    rw [rounds_succ]
    go_wp2
    go_roundw
    case rel =>
     refine ⟨k + 1, z, 4, acc ++ [Base.sign y], by go_num, by omega, rfl, rfl, by have := H3.out; omega, by have := Hz.out; omega, h1, hbw.trans b1, by simp; omega, ?_⟩
     rw [← Heq.out, Hd.out, Base.putGo2, ← Hx.out, ← Hy.out, ← Hz.out]
     simp
    case measure => simp [intOf]; omega
   ·rw [h3] at hn
    subst hn
    have H3 := hhh h3
    clear h3
    obtain ⟨y, hy⟩ : ∃ y : Nat, y = x / 64 % 64 := ⟨_, rfl⟩
    obtain ⟨y2, hy2⟩ : ∃ y : Nat, y = x % 64 := ⟨_, rfl⟩
    have han : bits .and .i64 ((x : Int) / 64) 63 = (y : Int) := by
     have := Int64.and63 (x / 64) (by omega)
     rw [hy, ← this]; rfl
    have han2 : bits .and .i64 (x : Int) 63 = (y2 : Int) := by
     rw [hy2, ← Int64.and63 x (by omega)]
    have hma : bits .and .i64 (x : Int) 0 = 0 := by
     have := Int64.andMask x 0 (by decide) (by omega)
     simpa [Nat.mod_one] using this
    have hy6 : y < 64 := by omega
    have hy26 : y2 < 64 := by omega
    have Hy := hhh hy
    have Hy2 := hhh hy2
    clear hy hy2
    go_wp2
    refine wp_loop_rounds 3 ?_
    rw [rounds_succ]
    go_wp2_with (fail)
    refine (wb w.heap.size acc (Base.sign y) wr hI (by omega) hBw _ (congrArg (fun u : UInt8 => (u.toNat : Int)) (sign_at y hy6 hy6))).mono ?_
    rintro e W1 ⟨rfl, h1, b1⟩
    go_wp2
    rw [rounds_succ]
    go_wp2_with (fail)
    refine (wb w.heap.size _ (Base.sign y2) W1 h1 (by rw [List.length_append]; show acc.length + 1 ≤ _; omega) (by have := b1.size; omega) _ (congrArg (fun u : UInt8 => (u.toNat : Int)) (sign_at y2 hy26 hy26))).mono ?_
    rintro e W2 ⟨rfl, h2, b2⟩
    go_wp2
    rw [rounds_succ]
    go_wp2
    go_roundw
    case rel =>
     refine ⟨k + 1, 0, 0, acc ++ [Base.sign y] ++ [Base.sign y2], by go_num, by omega, rfl, rfl, by have := H3.out; omega, by omega, h2, (hbw.trans b1).trans b2, by simp; omega, ?_⟩
     rw [← Heq.out, Hd.out, Base.putGo4, ← Hx.out, ← Hy.out, ← Hy2.out]
     simp
    case measure => simp [intOf]; omega
  ·have hdrop : s.data.toList.drop k = [] := by
    apply List.drop_eq_nil_of_le
    have : s.data.toList.length = s.size := Array.length_toList
    omega
   rw [hdrop] at heq
   have hv16 : vn < 16 := Nat.lt_of_lt_of_le hv (Nat.pow_le_pow_right (n := 2) (by decide) (show nn ≤ 4 by omega))
   have Heq := hhh heq
   have Hv := hhh hv
   clear heq hdrop hv
   have hBw : w.heap.size ≤ wr.heap.size := hbw.size
   rcases (show k % 3 = 0 ∨ k % 3 = 1 ∨ k % 3 = 2 by omega) with h3 | h3 | h3
   ·rw [h3] at hn
    subst hn
    clear h3
    go_wp2_with (fail)
    refine (Tryz.Builder_String_any_k w.heap.size w.heap.size _ _ hI (by omega)).mono ?_
    rintro e W2 ⟨rfl, _, b2, _⟩
    go_wp2
    go_ret
    refine ⟨?_, hbw.trans b2⟩
    rw [← Heq.out]
    simp [Base.putGo]
   ·rw [h3] at hn
    subst hn
    clear h3
    obtain ⟨y, hy⟩ : ∃ y : Nat, y = vn * 16 % 64 := ⟨_, rfl⟩
    have hvm : vn < 4 := Hv.out
    have han : bits .and .i64 ((vn : Int) * 16) 63 = (y : Int) := by
     have := Int64.and63 (vn * 16) (by omega)
     rw [hy, ← this]; rfl
    have hy6 : y < 64 := by omega
    have Hy := hhh hy
    clear hy
    go_wp2_with (fail)
    refine (wb w.heap.size acc (Base.sign y) wr hI (by omega) hBw _ (congrArg (fun u : UInt8 => (u.toNat : Int)) (sign_at y hy6 hy6))).mono ?_
    rintro e W1 ⟨rfl, h1, b1⟩
    go_wp2_with (fail)
    refine (Tryz.Builder_String_any_k w.heap.size w.heap.size _ _ h1 (by have := b1.size; omega)).mono ?_
    rintro e W2 ⟨rfl, _, b2, _⟩
    go_wp2
    go_ret
    refine ⟨?_, (hbw.trans b1).trans b2⟩
    rw [← Heq.out]
    simp [Base.putGo, Hy.out]
   ·rw [h3] at hn
    subst hn
    clear h3
    obtain ⟨y, hy⟩ : ∃ y : Nat, y = vn * 4 % 64 := ⟨_, rfl⟩
    have hvm : vn < 16 := Hv.out
    have han : bits .and .i64 ((vn : Int) * 4) 63 = (y : Int) := by
     have := Int64.and63 (vn * 4) (by omega)
     rw [hy, ← this]; rfl
    have hy6 : y < 64 := by omega
    have Hy := hhh hy
    clear hy
    go_wp2_with (fail)
    refine (wb w.heap.size acc (Base.sign y) wr hI (by omega) hBw _ (congrArg (fun u : UInt8 => (u.toNat : Int)) (sign_at y hy6 hy6))).mono ?_
    rintro e W1 ⟨rfl, h1, b1⟩
    go_wp2_with (fail)
    refine (Tryz.Builder_String_any_k w.heap.size w.heap.size _ _ h1 (by have := b1.size; omega)).mono ?_
    rintro e W2 ⟨rfl, _, b2, _⟩
    go_wp2
    go_ret
    refine ⟨?_, (hbw.trans b1).trans b2⟩
    rw [← Heq.out]
    simp [Base.putGo, Hy.out]
end Put
end
end Go.Proofs.YtnnkkgglfajmhaaGreat
