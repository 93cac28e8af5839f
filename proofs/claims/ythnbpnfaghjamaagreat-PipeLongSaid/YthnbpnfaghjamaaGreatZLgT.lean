/- Texts of the walk, joined. -/
import Derived.Test.YthnbpnfaghjamaaGreatZXtra
import Derived.Test.YthnbpnfaghjamaaGreatZLgR
import Derived.Test.YthnbpnfaghjamaaGreatK44
import Derived.Test.YthnbpnfaghjamaaGreatZAscW
import Derived.Test.YthnbpnfaghjamaaGreatZRefWrite
import Derived.Test.YthnbpnfaghjamaaGreatZPpTL
/- PipeLong: what writers write of a text of zero bytes; what a pipe answers. -/
namespace Go.Proofs.YthnbpnfaghjamaaGreat
open Go.RowKit
open Json (Part Wr Txt)
namespace Pip
def zb (n : Nat) : ByteArray := ⟨(zs n).toArray⟩
theorem zb_size (n : Nat) : (zb n).size = n := by show (zs n).toArray.size = n; rw [List.size_toArray, zs_length]
theorem zb_list (n : Nat) : (zb n).data.toList = zs n := rfl
theorem write_zs (n : Nat) : Esc.write (zs n) = escs n := by
 induction n with
 | zero => rfl
 | succ n ih => rw [zs_succ, Esc.write_append, ih]; rfl
theorem zb_low (n k : Nat) (h : k < (zb n).size) : ((zb n)[k]'h).toNat < 128 := by
 have h2 : k < (zs n).length := by rw [zs_length]; rwa [zb_size] at h
 have e : (zb n)[k]'h = (zs n)[k]'h2 := by
  show (zs n).toArray[k] = _
  rw [List.getElem_toArray]
 rw [e]
 rw [show (zs n)[k]'h2 = 0 from List.eq_of_mem_replicate (List.getElem_mem h2)]
 decide
theorem zwrite (n : Nat) (h : n ≤ 1000) (w : World) : Calls Tryz.prog 161 #[.string (zb n)] w fun e w' => e = .returned (.string ⟨(escs n).toArray⟩) ∧ Below w.heap.size w w' := by
 have := Esc.writeA_any (zb n) w (by rw [zb_size]; omega) (zb_low n)
 rw [zb_list, write_zs] at this
 exact this
theorem escs_size (n : Nat) : (⟨(escs n).toArray⟩ : ByteArray).size = 6 * n := by
 show (escs n).toArray.size = _
 rw [List.size_toArray, escs_length]
set_option maxRecDepth 100000 in
set_option maxHeartbeats 4000000 in
theorem plainJ_zero (n : Nat) (hn : n ≤ 1000) (w : World) :
  Calls Tryz.prog 159 #[(Part.word (zb n)).val] w fun e w' => e = .returned (.string ⟨(34 :: (escs n ++ [34])).toArray⟩) ∧ Below w.heap.size w w' := by
 have a1 := Json.asBool (.word (zb n))
 have a2 := Json.asWhole (.word (zb n))
 have a3 := Json.asWord (.word (zb n))
 have a4 := Json.asBlob (.word (zb n))
 have B0 := Lib.hid (fun o => (Below.refl w.heap.size w).alloc (Nat.le_refl _) o)
 have bel : ∀ {W : World} {o : Obj}, Below (w.alloc o).heap.size (w.alloc o) W → Below w.heap.size w W := fun {W o} b => (B0.out o).trans (b.mono (by rw [Json.size_alloc]; omega))
 have Bel := @Lib.hid _ @bel
 clear bel
 obtain ⟨V, hV⟩ : ∃ V, V = (Part.word (zb n)).val := ⟨_, rfl⟩
 rw [← hV] at a1 a2 a3 a4 ⊢
 simp only [Json.Part.isBool, Json.Part.inBool, Json.Part.isWhole, Json.Part.inWhole, Json.Part.isWord, Json.Part.inWord, Json.Part.isBlob, Json.Part.inBlob] at a1 a2 a3 a4
 have hq := Lib.hid (quoted' (escs n))
 have HF := Lib.hid (fun W => zwrite n hn W)
 have hsz : (⟨(escs n).toArray⟩ : ByteArray).size ≤ 6000 := by rw [escs_size]; omega
 obtain ⟨S, hS⟩ : ∃ S : ByteArray, S = ⟨(escs n).toArray⟩ := ⟨_, rfl⟩
 rw [← hS] at hsz HF hq
 generalize zb n = Z at *
 clear hS hn hV
 go_enter Tryz.func159, Tryz.ntmps159
 go_wp2_with (fail)
 refine (HF.out _).mono ?_
 rintro e W ⟨rfl, b⟩
 go_wp2
 go_ret
 exact ⟨Own.ret_string hq.out, Bel.out b⟩
def okZ : Part → Prop
 | .begins _ _ => True
 | .close => True
 | .word s => ∃ n, n ≤ 1000 ∧ s = zb n
 | _ => False
def textZ : Part → List UInt8
 | .word s => 34 :: (Esc.write s.data.toList ++ [34])
 | _ => [110, 117, 108, 108]
theorem txt_zero : Txt okZ textZ 0 (fun _ => True) where
 len p hp := by
  cases p with
  | word s =>
   obtain ⟨n, hn, rfl⟩ := hp
   show (34 :: (Esc.write (zb n).data.toList ++ [34])).length ≤ _
   rw [zb_list, write_zs]
   simp only [List.length_cons, List.length_append, List.length_nil, escs_length]; omega
  | _ => simp [textZ]
 any p hp u _ := by
  cases p with
  | begins m c => exact plainJ_begin m c u
  | close => exact plainJ_close u
  | word s =>
   obtain ⟨n, hn, rfl⟩ := hp
   have := plainJ_zero n hn u
   show Calls _ _ _ _ fun r w' => r = .returned (.string ⟨(34 :: (Esc.write (zb n).data.toList ++ [34])).toArray⟩) ∧ _
   rw [zb_list, write_zs]
   exact this
  | _ => cases hp
 of _ _ _ _ := trivial
set_option maxRecDepth 100000 in
set_option maxHeartbeats 4000000 in
theorem rplain1_zero (n : Nat) (hs : n ≤ 400) (w : World) :
  Calls Tryz.prog 47 #[.int .i64 1, .agg #[.int .i64 3, .bool false, .int .u64 0, .string (zb n), .int .i64 0]] w fun e w' => e = .returned (.tuple #[.string ⟨(34 :: (escs n ++ [34])).toArray⟩, .int .i64 0]) ∧ Below w.heap.size w w' := by
 have BA := Lib.hid (fun (o : Obj) (W : World) (b : Below (w.alloc o).heap.size (w.alloc o) W) => (((Below.refl w.heap.size w).alloc (Nat.le_refl _) o).trans (b.mono (by rw [Json.size_alloc]; omega)) : Below w.heap.size w W))
 have hF := fun u => Ref.write_any (zb n) u (by rw [zb_size]; omega)
 rw [zb_list, write_zs] at hF
 have hq := Lib.hid (quoted' (escs n))
 have hsz : (⟨(escs n).toArray⟩ : ByteArray).size ≤ 6000 := by rw [escs_size]; omega
 obtain ⟨S, hS⟩ : ∃ S : ByteArray, S = ⟨(escs n).toArray⟩ := ⟨_, rfl⟩
 rw [← hS] at hsz hF hq
 have HF := Lib.hid hF
 generalize zb n = Z at *
 clear hS hs hF
 go_enter Tryz.func47, Tryz.ntmps47
 go_wp2_with (fail)
 refine (HF.out _).mono ?_
 rintro e W ⟨rfl, b⟩
 go_wp2
 go_ret2
 exact ⟨ret_first hq.out, BA.out _ _ b⟩
theorem long_len (f : Int) (n : Nat) (h : n ≤ 400) : (longDoc f n).length ≤ 2450 := by
 have hb : ∀ v k, (big v k).length = k := fun v k => by simp [big]
 have h1 : (put 3 n).length ≤ 10 := by
  unfold put
  repeat' split
  all_goals simp only [List.length_append, hb]; omega
 have h2 : (packHead n).length ≤ 10 := by
  simp only [packHead, sized]
  repeat' split
  all_goals simp [hb]
 unfold longDoc
 split
 ·simp only [List.length_cons, List.length_append, List.length_nil, escs_length]; omega
 ·split
  ·rw [List.length_append, zs_length]; omega
  ·rw [List.length_append, zs_length]; omega
theorem long_doc (f : Int) (hf : f = 1 ∨ f = 2 ∨ f = 3) (n : Nat) (hs : n ≤ 400) : ∃ X : ByteArray, X = ⟨(longDoc f n).toArray⟩ ∧ X.size ≤ 10000 ∧ PlainTells f (.agg #[.int .i64 3, .bool false, .int .u64 0, .string (zb n), .int .i64 0]) X := by
 refine ⟨_, rfl, ?_, ?_⟩
 ·show (longDoc f n).toArray.size ≤ 10000
  rw [List.size_toArray]
  have := long_len f n hs
  omega
 ·intro u
  rcases hf with rfl | rfl | rfl
  ·exact rplain1_zero n hs u
  ·have := rplain2_text (zb n) (by rw [zb_size]; omega) u
   rw [zb_size, zb_list] at this
   exact this
  ·show Calls _ _ _ _ fun e w' => e = .returned (.tuple #[.string ⟨(packHead n ++ zs n).toArray⟩, .int .i64 0]) ∧ _
   unfold packHead
   by_cases h32 : n < 32
   ·have := rplain3_few (zb n) (by rw [zb_size]; exact h32) u
    rw [zb_size, zb_list] at this
    rw [if_pos h32]
    exact this
   ·have := rplain3_text (zb n) (by rw [zb_size]; omega) (by rw [zb_size]; omega) u
    rw [zb_size, zb_list] at this
    rw [if_neg h32]
    exact this
theorem alone_long (t : Int) (ht : t = 1 ∨ t = 2 ∨ t = 3) (n : Nat) : alone textZ t (.word ⟨(zs n).toArray⟩) = longDoc t n := by
 have hz : (⟨(zs n).toArray⟩ : ByteArray).size = n := zb_size n
 rcases ht with rfl | rfl | rfl
 ·show 34 :: (Esc.write (zs n) ++ [34]) = 34 :: (escs n ++ [34])
  rw [write_zs]
 ·show put 3 (⟨(zs n).toArray⟩ : ByteArray).size ++ zs n = put 3 n ++ zs n
  rw [hz]
 ·show (packPlain (.word ⟨(zs n).toArray⟩)).1 = packHead n ++ zs n
  unfold packPlain packHead
  dsimp only
  rw [hz]
  split <;> rfl
theorem told_err (ok : Part → Prop) (text : Part → List UInt8) (x : UInt8) (q r' : Reader) (e : Nat) (he : e ≠ 0) (m : List UInt8) (hl : q.step x = (r', [], e)) : ∀ (l : List UInt8) (r : Reader) (o : Writer) (h : Option Stg), r.Quiet l q → (Pp.mk r o h false 0).Told ok text (l ++ x :: m)
 | [], r, o, h, hq => by
  rw [show r = q from hq]
  have hs : ((Pp.mk q o h false 0).step text x).1.may ≠ 0 := by
   rw [Pp.step_may]
   unfold Pp.step
   rw [if_neg (by simp [Pp.may])]
   show ((Pp.mk (q.step x).1 o h false 0).write text (q.step x).2.1 (q.step x).2.2).2.2 ≠ 0
   rw [hl]
   exact he
  have hall : ∀ k, ((Pp.mk q o h false 0).all text (x :: k)).1.may ≠ 0 := fun k => by
   show (((Pp.mk q o h false 0).step text x).1.all text k).1.may ≠ 0
   rw [Pp.all_over text k _ hs]
   exact hs
  refine ⟨fun j hj hm u hu => ?_, fun hm => absurd hm (hall m)⟩
  cases j with
  | zero =>
   have : u ∈ (q.step x).2.1 := hu
   rw [hl] at this
   cases this
  | succ j => exact absurd hm (hall (m.take j))
 | y :: l, r, o, h, ⟨k, h1, h2⟩ => by
  have hs := Pp.step_quiet text (Pp.mk r o h false 0) y k rfl h1
  have ih := told_err ok text x q r' e he m hl l k o h h2
  refine ⟨fun j hj hm u hu => ?_, fun hm u hu => ?_⟩
  ·cases j with
   | zero =>
    have : u ∈ (r.step y).2.1 := hu
    rw [h1] at this
    cases this
   | succ j =>
    have e : ((Pp.mk r o h false 0).all text ((y :: l ++ x :: m).take (j + 1))).1 = ((Pp.mk k o h false 0).all text ((l ++ x :: m).take j)).1 := by
     show ((Pp.mk r o h false 0).all text (y :: (l ++ x :: m).take j)).1 = _
     rw [Pp.all, hs]
    rw [e] at hm hu
    exact ih.step j (by simpa using hj) hm u hu
  ·have e : ((Pp.mk r o h false 0).all text (y :: l ++ x :: m)).1 = ((Pp.mk k o h false 0).all text (l ++ x :: m)).1 := by
    show ((Pp.mk r o h false 0).all text (y :: (l ++ x :: m))).1 = _
    rw [Pp.all, hs]
   rw [e] at hm hu
   exact ih.fin hm u hu
theorem long_told (f t : Int) (hf : f = 1 ∨ f = 2 ∨ f = 3) (n : Nat) (h4 : n ≤ 400) : (Pp.new ⟨f, t, 1, 0, 0⟩).Told okZ textZ (longDoc f n) := by
 by_cases h : n ≤ 200
 ·obtain ⟨d, x, q, r', e, h1, h2, h3⟩ := long_reads f hf n h
  rw [e]
  exact told_one okZ textZ x q r' _ h2 h3 ⟨n, by omega, rfl⟩ d _ _ _ h1
 ·obtain ⟨d, m, x, q, r', e, h1, h2⟩ := long_over f hf n (by omega) h4
  rw [e]
  exact told_err okZ textZ x q r' 5 (by decide) m h2 d _ _ _ h1
theorem batch_zero (s : Setup) (hr : right s = true) (b : ByteArray) (hb : b.size ≤ 2450) (told : (Pp.new s).Told okZ textZ b.data.toList) (w : World) :
  Calls Tryz.prog 21 #[s.val, .string b] w fun e w' => e = .returned (.tuple #[.string ⟨(batch textZ s b.data.toList).1.toArray⟩, .int .i64 ((batch textZ s b.data.toList).2 : Int)]) ∧ Below w.heap.size w w' := by
 cases hX : Writer.new s.to with
 | json W => exact batch_long (wrote_json txt_zero) (by decide) s hr (by rw [hX]; rfl) b (fun _ => reads_kind _) rfl hb told w (Nat.zero_le _) trivial
 | cbor W => exact batch_long (wrote_cbor textZ) (by decide) s hr (by rw [hX]; rfl) b (fun _ => reads_kind _) rfl hb ⟨fun _ _ _ _ _ => trivial, fun _ _ _ => trivial⟩ w (Nat.zero_le _) trivial
 | pack W => exact batch_long (wrote_pack textZ) (by decide) s hr (by rw [hX]; rfl) b (fun _ => reads_kind _) rfl hb ⟨fun _ _ _ _ _ => trivial, fun _ _ _ => trivial⟩ w (Nat.zero_le _) trivial
theorem long_any (f t : Int) (hf : f = 1 ∨ f = 2 ∨ f = 3) (ht : t = 1 ∨ t = 2 ∨ t = 3) (n : Nat) (h4 : n ≤ 400) (X : ByteArray) (hX : X = ⟨(longDoc f n).toArray⟩) (w : World) :
  Calls Tryz.prog 21 #[(Setup.mk f t 1 0 0).val, .string X] w fun e w' => e = .returned (.tuple #[.string (if n ≤ 200 then ⟨(longDoc t n).toArray⟩ else ⟨#[]⟩), .int .i64 (if n ≤ 200 then 0 else 5)]) ∧ Below w.heap.size w w' := by
 have hd : X.data.toList = longDoc f n := by rw [hX]
 have hz : X.size ≤ 2450 := by
  have := long_len f n h4
  rw [hX]
  show (longDoc f n).toArray.size ≤ 2450
  rw [List.size_toArray]
  exact this
 have key := batch_zero ⟨f, t, 1, 0, 0⟩ (long_right f t hf ht) X hz (by rw [hd]; exact long_told f t hf n h4) w
 rw [hd] at key
 by_cases h : n ≤ 200
 ·rw [long_batch textZ f t hf ht n h, alone_long t ht n] at key
  rw [if_pos h, if_pos h]
  exact key
 ·rw [long_batch_over textZ f t hf ht n (by omega) h4] at key
  rw [if_neg h, if_neg h]
  exact key
theorem make_zeros (n : Nat) (h : n ≤ 1000) (W : World) : (Instr.makeSlice 47 (.int .i64 (n : Int)) (.int .i64 (n : Int))).run Tryz.prog W = .ok (.slice (some ⟨W.heap.size, 0, none⟩) n n) (W.alloc (.cells (u8s (zs n)).toArray 5)) := by
 have h := run_make_row' (P := Tryz.prog) 47 5 (.int .u8 0) 1 Tryz.underlying47 (by kernel_rfl) rfl .i64 .i64 n (by omega) (by omega) W
 have e : madeCells #[Value.int .u8 0] n = (u8s (zs n)).toArray := by
  rw [Own.made_list]
  simp [u8s, zs]
 rw [e] at h
 exact h
theorem zeros_cv (n : Nat) (h : n ≤ 1000) (W : World) : (convert 47 9 (.slice (some ⟨W.heap.size, 0, none⟩) n n)).run Tryz.prog (W.alloc (.cells (u8s (zs n)).toArray 5)) = .ok (.string (zb n)) (W.alloc (.cells (u8s (zs n)).toArray 5)) :=
 hcv_new W W.heap.size rfl (zs n) n (zs_length n) (Nat.le_trans h (by decide))
end Pip
end Go.Proofs.YthnbpnfaghjamaaGreat
