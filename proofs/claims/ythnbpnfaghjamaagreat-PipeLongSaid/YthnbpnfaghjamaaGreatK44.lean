/- Texts of the walk, joined. -/
import Derived.Test.YthnbpnfaghjamaaGreatK04
import Derived.Test.YthnbpnfaghjamaaGreatK39
import Derived.Test.YthnbpnfaghjamaaGreatK40
import Derived.Test.YthnbpnfaghjamaaGreatK43
/- JSON's texts of bytes, whatever the tables hold. -/
namespace Go.Proofs.YthnbpnfaghjamaaGreat
open Go.RowKit
open Json (Part Wr Txt)
namespace Pip
theorem quoted' (l : List UInt8) : ((⟨#[34]⟩ : ByteArray) ++ ⟨l.toArray⟩ ++ ⟨#[34]⟩) = ⟨(34 :: (l ++ [34])).toArray⟩ := by
 apply ByteArray.ext
 simp
set_option maxHeartbeats 2000000 in
theorem plainJ_blob (s : ByteArray) (hs : s.size ≤ 1000) (w : World) :
  Calls Tryz.prog 159 #[(Part.blob s).val] w fun e w' => e = .returned (.string ⟨(34 :: (Base.put s.data.toList ++ [34])).toArray⟩) ∧ Below w.heap.size w w' := by
 have a1 := Json.asBool (.blob s)
 have a2 := Json.asWhole (.blob s)
 have a3 := Json.asWord (.blob s)
 have a4 := Json.asBlob (.blob s)
 have B0 := Lib.hid (fun o => (Below.refl w.heap.size w).alloc (Nat.le_refl _) o)
 have bel : ∀ {W : World} {o : Obj}, Below (w.alloc o).heap.size (w.alloc o) W → Below w.heap.size w W := fun {W o} b => (B0.out o).trans (b.mono (by rw [Json.size_alloc]; omega))
 have Bel := @Lib.hid _ @bel
 clear bel
 obtain ⟨V, hV⟩ : ∃ V, V = (Part.blob s).val := ⟨_, rfl⟩
 rw [← hV] at a1 a2 a3 a4 ⊢
 simp only [Json.Part.isBool, Json.Part.inBool, Json.Part.isWhole, Json.Part.inWhole, Json.Part.isWord, Json.Part.inWord, Json.Part.isBlob, Json.Part.inBlob] at a1 a2 a3 a4
 have hq := Lib.hid (quoted' (Base.put s.data.toList))
 have HF := Lib.hid (fun W => Put.any s W (by omega))
 have hsz : (⟨(Base.put s.data.toList).toArray⟩ : ByteArray).size ≤ 6000 := by
  rw [show (⟨(Base.put s.data.toList).toArray⟩ : ByteArray).size = (Base.put s.data.toList).length from List.size_toArray ..]
  have := Base.put_length s.data.toList
  have hl : s.data.toList.length = s.size := Array.length_toList
  omega
 obtain ⟨S, hS⟩ : ∃ S : ByteArray, S = ⟨(Base.put s.data.toList).toArray⟩ := ⟨_, rfl⟩
 rw [← hS] at hsz HF hq
 clear hS hs hV
 go_enter Tryz.func159, Tryz.ntmps159
 go_wp2_with (fail)
 refine (HF.out _).mono ?_
 rintro e W ⟨rfl, b⟩
 go_wp2
 go_ret
 exact ⟨Own.ret_string hq.out, Bel.out b⟩
def blobB : Part → Bool
 | .begins _ _ => true
 | .close => true
 | .blob s => decide (s.size ≤ 1000)
 | _ => false
def textB : Part → List UInt8
 | .blob s => 34 :: (Base.put s.data.toList ++ [34])
 | _ => [110, 117, 108, 108]
theorem txt_blob : Txt (fun p => blobB p = true) textB 0 (fun _ => True) where
 len p hp := by
  cases p with
  | blob s =>
   have h : s.size ≤ 1000 := by simpa [blobB] using hp
   have := Base.put_length s.data.toList
   have hs : s.data.toList.length = s.size := Array.length_toList
   show (34 :: (Base.put s.data.toList ++ [34])).length ≤ _
   simp only [List.length_cons, List.length_append, List.length_nil]; omega
  | _ => simp [textB]
 any p hp u _ := by
  cases p with
  | begins m c => exact plainJ_begin m c u
  | close => exact plainJ_close u
  | blob s => exact plainJ_blob s (by simpa [blobB] using hp) u
  | _ => cases hp
 of _ _ _ _ := trivial
end Pip
end Go.Proofs.YthnbpnfaghjamaaGreat

/- PipeBlobs: what the reference's writers write of bytes; what a pipe answers. -/
namespace Go.Proofs.YthnbpnfaghjamaaGreat
open Go.RowKit
open Json (Part Wr Txt)
namespace Pip
set_option maxRecDepth 100000 in
set_option maxHeartbeats 4000000 in
theorem rplain1_blob (s : ByteArray) (hs : s.size ≤ 1000) (w : World) :
  Calls Tryz.prog 47 #[.int .i64 1, .agg #[.int .i64 4, .bool false, .int .u64 0, .string s, .int .i64 0]] w fun e w' => e = .returned (.tuple #[.string ⟨(34 :: (Base.put s.data.toList ++ [34])).toArray⟩, .int .i64 0]) ∧ Below w.heap.size w w' := by
 have HB := Lib.hid (fun o => (Below.refl w.heap.size w).alloc (Nat.le_refl _) o)
 have HF := Lib.hid (fun u => RefBase.any s u (by omega))
 have hq := Lib.hid (quoted' (Base.put s.data.toList))
 have hsz : (⟨(Base.put s.data.toList).toArray⟩ : ByteArray).size ≤ 6000 := by
  show (Base.put s.data.toList).toArray.size ≤ 6000
  have := Base.put_length s.data.toList
  have hl : s.data.toList.length = s.size := Array.length_toList
  rw [List.size_toArray]
  omega
 obtain ⟨S, hS⟩ : ∃ S : ByteArray, S = ⟨(Base.put s.data.toList).toArray⟩ := ⟨_, rfl⟩
 rw [← hS] at hsz HF hq
 clear hS hs
 go_enter Tryz.func47, Tryz.ntmps47
 go_wp2_with (fail)
 refine (HF.out _).mono ?_
 rintro e W ⟨rfl, rfl⟩
 go_wp2
 go_ret2
 exact ⟨ret_first hq.out, HB.out _⟩
theorem told_one (ok : Part → Prop) (text : Part → List UInt8) (x : UInt8) (q r' : Reader) (v : Part) (hl : q.step x = (r', [v], 0)) (hf : r'.fin = (r', [], 0)) (hv : ok v) : ∀ (l : List UInt8) (r : Reader) (o : Writer) (h : Option Stg), r.Quiet l q → (Pp.mk r o h false 0).Told ok text (l ++ [x])
 | [], r, o, h, hq => by
  rw [show r = q from hq]
  refine ⟨fun j hj _ => ?_, fun _ => ?_⟩
  ·obtain rfl : j = 0 := by simpa using hj
   show ∀ u ∈ (q.step x).2.1, ok u
   rw [hl]
   intro u hu
   rw [List.mem_singleton.1 hu]
   exact hv
  ·show ∀ u ∈ ((Pp.mk q o h false 0).step text x).1.input.fin.2.1, ok u
   have hi : ((Pp.mk q o h false 0).step text x).1.input = r' := by
    unfold Pp.step
    rw [if_neg (by simp [Pp.may]), Pp.write_input]
    show (q.step x).1 = r'
    rw [hl]
   rw [hi, hf]
   intro u hu
   cases hu
 | y :: l, r, o, h, ⟨m, h1, h2⟩ => by
  have hs := Pp.step_quiet text (Pp.mk r o h false 0) y m rfl h1
  have ih := told_one ok text x q r' v hl hf hv l m o h h2
  refine ⟨fun j hj hm u hu => ?_, fun hm u hu => ?_⟩
  ·cases j with
   | zero =>
    have : u ∈ (r.step y).2.1 := hu
    rw [h1] at this
    cases this
   | succ j =>
    have e : ((Pp.mk r o h false 0).all text ((y :: l ++ [x]).take (j + 1))).1 = ((Pp.mk m o h false 0).all text ((l ++ [x]).take j)).1 := by
     show ((Pp.mk r o h false 0).all text (y :: (l ++ [x]).take j)).1 = _
     rw [Pp.all, hs]
    rw [e] at hm hu
    exact ih.step j (by simpa using hj) hm u hu
  ·have e : ((Pp.mk r o h false 0).all text (y :: l ++ [x])).1 = ((Pp.mk m o h false 0).all text (l ++ [x])).1 := by
    show ((Pp.mk r o h false 0).all text (y :: (l ++ [x]))).1 = _
    rw [Pp.all, hs]
   rw [e] at hm hu
   exact ih.fin hm u hu
theorem blob_told (text : Part → List UInt8) (f t : Int) (hf : f = 2 ∨ f = 3) (l : List UInt8) (h : l.length ≤ 200) : (Pp.new ⟨f, t, 1, 0, 0⟩).Told (fun p => blobB p = true) text (blobDoc f l) := by
 obtain ⟨d, x, q, r', e, h1, h2, h3⟩ := blob_reads f hf l h
 rw [e]
 refine told_one (fun p => blobB p = true) text x q r' _ h2 h3 ?_ d _ _ _ h1
 show decide ((⟨l.toArray⟩ : ByteArray).size ≤ 1000) = true
 rw [decide_eq_true_eq]
 show l.toArray.size ≤ 1000
 rw [List.size_toArray]
 omega
theorem blob_doc (f : Int) (hf : f = 2 ∨ f = 3) (s : ByteArray) (hs : s.size ≤ 200) : ∃ X : ByteArray, X = ⟨(blobDoc f s.data.toList).toArray⟩ ∧ X.size ≤ 10000 ∧ PlainTells f (.agg #[.int .i64 4, .bool false, .int .u64 0, .string s, .int .i64 0]) X := by
 have hl : s.data.toList.length = s.size := Array.length_toList
 refine ⟨_, rfl, ?_, ?_⟩
 ·show (blobDoc f s.data.toList).toArray.size ≤ 10000
  rw [List.size_toArray]
  rcases hf with rfl | rfl
  ·unfold blobDoc
   rw [if_pos rfl, List.length_append]
   have := head_size_Head (m := 2) s.data.toList.length
   rw [show (⟨(put 2 s.data.toList.length).toArray⟩ : ByteArray).size = (put 2 s.data.toList.length).length from List.size_toArray ..] at this
   omega
  ·unfold blobDoc
   rw [if_neg (by decide), List.length_append]
   have := head_size_length (f := 196) s.data.toList.length
   rw [show (⟨(sized 196 s.data.toList.length [1, 2, 4] 0).toArray⟩ : ByteArray).size = (sized 196 s.data.toList.length [1, 2, 4] 0).length from List.size_toArray ..] at this
   omega
 ·intro u
  rcases hf with rfl | rfl
  ·have := rplain2_blob s (by omega) u
   unfold blobDoc
   rw [if_pos rfl, hl]
   exact this
  ·have := rplain3_blob s (by omega) u
   unfold blobDoc
   rw [if_neg (by decide), hl]
   exact this
theorem blob_alone (t : Int) (ht : t = 1 ∨ t = 2 ∨ t = 3) (s : ByteArray) (hs : s.size ≤ 200) : ∃ Y : ByteArray, Y = ⟨(alone textB t (.blob s)).toArray⟩ ∧ Y.size ≤ 10000 ∧ PlainTells t (.agg #[.int .i64 4, .bool false, .int .u64 0, .string s, .int .i64 0]) Y := by
 have hl : s.data.toList.length = s.size := Array.length_toList
 rcases ht with rfl | ht
 ·refine ⟨_, rfl, ?_, fun u => rplain1_blob s (by omega) u⟩
  show (34 :: (Base.put s.data.toList ++ [34])).toArray.size ≤ 10000
  have := Base.put_length s.data.toList
  rw [List.size_toArray]
  simp only [List.length_cons, List.length_append, List.length_nil]
  omega
 ·obtain ⟨X, h1, h2, h3⟩ := blob_doc t ht s hs
  refine ⟨X, ?_, h2, h3⟩
  rw [h1]
  rcases ht with rfl | rfl
  ·unfold blobDoc alone; rw [if_pos rfl, if_neg (by decide), if_pos rfl, hl]; rfl
  ·unfold blobDoc alone; rw [if_neg (by decide), if_neg (by decide), if_neg (by decide), hl]; rfl
theorem blob_any (f t : Int) (hf : f = 2 ∨ f = 3) (ht : t = 1 ∨ t = 2 ∨ t = 3) (s : ByteArray) (hs : s.size ≤ 200) (X : ByteArray) (hX : X = ⟨(blobDoc f s.data.toList).toArray⟩) (Y : ByteArray) (hY : Y = ⟨(alone textB t (.blob s)).toArray⟩) (w : World) :
  Calls Tryz.prog 21 #[(Setup.mk f t 1 0 0).val, .string X] w fun e w' => e = .returned (.tuple #[.string Y, .int .i64 0]) ∧ Below w.heap.size w w' := by
 have hl : s.data.toList.length = s.size := Array.length_toList
 have hr : right ⟨f, t, 1, 0, 0⟩ = true := by
  rcases hf with rfl | rfl <;> rcases ht with rfl | rfl | rfl <;> decide
 have hd : X.data.toList = blobDoc f s.data.toList := by rw [hX]
 have hz : X.size ≤ 1000 := by
  have := blob_doc_len f hf s.data.toList (by omega)
  rw [hX]
  show (blobDoc f s.data.toList).toArray.size ≤ 1000
  rw [List.size_toArray]
  omega
 have key := batch_with txt_blob ⟨f, t, 1, 0, 0⟩ hr X hz (fun _ => by rw [hd]; exact blob_told textB f t hf _ (by omega)) w (Nat.zero_le _) trivial
 rw [hd, blob_batch textB f t hf ht _ (by omega)] at key
 rw [hY]
 exact key
end Pip
end Go.Proofs.YthnbpnfaghjamaaGreat
