/- jsonout.plain: the text of a part that is no container. -/
import Derived.Test.YtopaadmnlghdaaaDoorEvt
import Derived.Test.YtopaadmnlghdaaaDoorDec
import Derived.Test.YtopaadmnlghdaaaDoorEscWrite
import Derived.Test.YtopaadmnlghdaaaDoorPut
namespace Go.Proofs.YtopaadmnlghdaaaDoor
open Go.RowKit
namespace Json

/-- The bytes of a part that is no container. -/
def text : Part → List UInt8
  | .bool true => [116, 114, 117, 101]
  | .bool false => [102, 97, 108, 115, 101]
  | .whole n m => dec n m
  | .word s => 34 :: (Esc.write s.data.toList ++ [34])
  | .blob s => 34 :: (Base.put s.data.toList ++ [34])
  | _ => [110, 117, 108, 108]

/-- Not too great. -/
def Part.small : Part → Prop
  | .whole _ m => m < 18446744073709551616
  | .word s => s.size ≤ 1000
  | .blob s => s.size ≤ 1000
  | _ => True

theorem write_len : ∀ l : List UInt8, (Esc.write l).length ≤ 6 * l.length
  | [] => by simp [Esc.write]
  | b :: l => by
    rw [Esc.write_cons, List.length_append, List.length_cons]
    have h1 := Esc.esc1_length b
    have h2 := write_len l
    omega

theorem dec_length (n : Bool) (m : Nat) (h : m < 18446744073709551616) : (dec n m).length ≤ 21 := by
  unfold dec
  have hs : ∀ u, u < 18446744073709551616 → (Lib.decDigits u).length ≤ 20 := fun u hu => by
    have := dec_len u hu
    rwa [show (⟨(Lib.decDigits u).toArray⟩ : ByteArray).size = (Lib.decDigits u).length from List.size_toArray ..] at this
  cases n with
  | false => have := hs m h; simp; omega
  | true =>
    by_cases h1 : m = 18446744073709551615
    · subst h1
      have := congrArg ByteArray.size dec_top
      rw [show ∀ l : List UInt8, (⟨l.toArray⟩ : ByteArray).size = l.length from fun l => List.size_toArray ..] at this
      rw [show dec true 18446744073709551615 = if true = true then 45 :: Lib.decDigits (18446744073709551615 + 1) else Lib.decDigits 18446744073709551615 from rfl] at this
      rw [this]
      decide
    · have := hs (m + 1) (by omega); simp; omega

theorem text_len (p : Part) (h : p.small) : (text p).length ≤ 6010 := by
  cases p with
  | bool b => cases b <;> simp [text]
  | whole n m => have := dec_length n m h; show (dec n m).length ≤ _; omega
  | word s =>
    have := write_len s.data.toList
    have hs : s.data.toList.length = s.size := Array.length_toList
    have : s.size ≤ 1000 := h
    show (34 :: (Esc.write s.data.toList ++ [34])).length ≤ _
    simp only [List.length_cons, List.length_append, List.length_nil]; omega
  | blob s =>
    have := Base.put_length s.data.toList
    have hs : s.data.toList.length = s.size := Array.length_toList
    have : s.size ≤ 1000 := h
    show (34 :: (Base.put s.data.toList ++ [34])).length ≤ _
    simp only [List.length_cons, List.length_append, List.length_nil]; omega
  | _ => simp [text]

theorem quoted (l : List UInt8) : ((⟨#[34]⟩ : ByteArray) ++ ⟨l.toArray⟩ ++ ⟨#[34]⟩) = ⟨(34 :: (l ++ [34])).toArray⟩ := by
  apply ByteArray.ext
  simp

set_option maxHeartbeats 4000000 in
theorem text_any (p : Part) (hp : p.small) (w : World) (T : Tabs w) :
    Calls Tryd.prog 25 #[p.val] w fun r w' => r = .returned (.string ⟨(text p).toArray⟩) ∧ Below w.heap.size w w' := by
  have B0 := Lib.hid (fun o => (Below.refl w.heap.size w).alloc (Nat.le_refl _) o)
  have HT := Lib.hid (fun (o : Obj) => T.below (B0.out o))
  have bel : ∀ {W : World} {o : Obj}, Below (w.alloc o).heap.size (w.alloc o) W → Below w.heap.size w W := fun {W o} b => (B0.out o).trans (b.mono (by rw [size_alloc]; omega))
  have Bel := @Lib.hid _ @bel
  clear bel T
  have a1 := asBool p
  have a2 := asWhole p
  have a3 := asWord p
  have a4 := asBlob p
  obtain ⟨V, hV⟩ : ∃ V, V = p.val := ⟨_, rfl⟩
  rw [← hV] at a1 a2 a3 a4 ⊢
  clear hV
  cases p with
  | whole n m =>
    simp only [Part.isBool, Part.inBool, Part.isWhole, Part.inWhole, Part.isWord, Part.inWord, Part.isBlob, Part.inBlob] at a1 a2 a3 a4
    have HP := Lib.hid hp
    clear hp
    go_enter Tryd.func25, Tryd.ntmps25
    go_wp2_with (fail)
    refine (print_any n m HP.out _ (HT.out _)).mono ?_
    rintro e W ⟨rfl, b⟩
    go_wp2
    go_ret
    exact ⟨rfl, Bel.out b⟩
  | word s =>
    simp only [Part.isBool, Part.inBool, Part.isWhole, Part.inWhole, Part.isWord, Part.inWord, Part.isBlob, Part.inBlob] at a1 a2 a3 a4
    have hs : s.size ≤ 1000 := hp
    have hq := Lib.hid (quoted (Esc.write s.data.toList))
    have HF := Lib.hid (fun W (t : Tabs W) => Esc.write_any s W (by omega) t.1)
    have hsz : (⟨(Esc.write s.data.toList).toArray⟩ : ByteArray).size ≤ 6000 := by
      rw [show (⟨(Esc.write s.data.toList).toArray⟩ : ByteArray).size = (Esc.write s.data.toList).length from List.size_toArray ..]
      have := write_len s.data.toList
      have hl : s.data.toList.length = s.size := Array.length_toList
      omega
    obtain ⟨S, hS⟩ : ∃ S : ByteArray, S = ⟨(Esc.write s.data.toList).toArray⟩ := ⟨_, rfl⟩
    rw [← hS] at hsz HF hq
    clear hS hs hp
    go_enter Tryd.func25, Tryd.ntmps25
    go_wp2_with (fail)
    refine (HF.out _ (HT.out _)).mono ?_
    rintro e W ⟨rfl, b⟩
    go_wp2
    go_ret
    exact ⟨Own.ret_string hq.out, Bel.out b⟩
  | blob s =>
    simp only [Part.isBool, Part.inBool, Part.isWhole, Part.inWhole, Part.isWord, Part.inWord, Part.isBlob, Part.inBlob] at a1 a2 a3 a4
    have hs : s.size ≤ 1000 := hp
    have hq := Lib.hid (quoted (Base.put s.data.toList))
    have HF := Lib.hid (fun W => Put.any s W (by omega))
    have hsz : (⟨(Base.put s.data.toList).toArray⟩ : ByteArray).size ≤ 6000 := by
      rw [show (⟨(Base.put s.data.toList).toArray⟩ : ByteArray).size = (Base.put s.data.toList).length from List.size_toArray ..]
      have := Base.put_length s.data.toList
      have hl : s.data.toList.length = s.size := Array.length_toList
      omega
    obtain ⟨S, hS⟩ : ∃ S : ByteArray, S = ⟨(Base.put s.data.toList).toArray⟩ := ⟨_, rfl⟩
    rw [← hS] at hsz HF hq
    clear hS hs hp
    go_enter Tryd.func25, Tryd.ntmps25
    go_wp2_with (fail)
    refine (HF.out _).mono ?_
    rintro e W ⟨rfl, b⟩
    go_wp2
    go_ret
    exact ⟨Own.ret_string hq.out, Bel.out b⟩
  | bool y =>
    simp only [Part.isBool, Part.inBool, Part.isWhole, Part.inWhole, Part.isWord, Part.inWord, Part.isBlob, Part.inBlob] at a1 a2 a3 a4
    clear hp
    cases y
    all_goals go_enter Tryd.func25, Tryd.ntmps25
    all_goals go_wp2
    all_goals go_ret
    all_goals exact ⟨rfl, Below.refl _ _⟩
  | _ =>
    simp only [Part.isBool, Part.inBool, Part.isWhole, Part.inWhole, Part.isWord, Part.inWord, Part.isBlob, Part.inBlob] at a1 a2 a3 a4
    clear hp
    go_enter Tryd.func25, Tryd.ntmps25
    go_wp2
    go_ret
    exact ⟨rfl, B0.out _⟩
end Json
end Go.Proofs.YtopaadmnlghdaaaDoor
