/- Texts of the walk, joined. -/
import Derived.Test.YthnbpnfaghjamaaGreatM04
import Derived.Test.YthnbpnfaghjamaaGreatM12
import Derived.Test.YthnbpnfaghjamaaGreatM13
import Derived.Test.YthnbpnfaghjamaaGreatM25
import Derived.Test.YthnbpnfaghjamaaGreatM28
import Derived.Test.YthnbpnfaghjamaaGreatM29
import Derived.Test.YthnbpnfaghjamaaGreatM31
import Derived.Test.YthnbpnfaghjamaaGreatM35
import Derived.Test.YthnbpnfaghjamaaGreatM36
import Derived.Test.YthnbpnfaghjamaaGreatM40
import Derived.Test.YthnbpnfaghjamaaGreatM43
import Derived.ChangeArms
import Derived.Deep.Slices
import Derived.WideShapes
import GoSem.ClaimJoined
import GoSem.Claims
/- The pipe where MessagePack is written; the law's first call. -/
namespace Go.Proofs.YthnbpnfaghjamaaGreat
open Go.RowKit
open Json (Part Wr)
namespace Pip
theorem wrote_pack (text : Part → List UInt8) : Wrote 3 300 (fun _ => True) text 0 (fun _ => True) where
 wok := wok_pack text
 write hi hf hn hk he l hl hfine hs hw _ _ _ := write_pack text hi hf hn hk he l hl (fun v hv => (hfine v hv).1) hs hw
theorem batch_pack (s : Setup) (hr : right s = true) (hf1 : s.from_ = 1) (hk : s.to = 3) (b : ByteArray) (hb : b.size ≤ 1000) (text : Part → List UInt8) (w : World) :
  Calls Tryz.prog 21 #[s.val, .string b] w fun e w' => e = .returned (.tuple #[.string ⟨(batch text s b.data.toList).1.toArray⟩, .int .i64 ((batch text s b.data.toList).2 : Int)]) ∧ Below w.heap.size w w' :=
 batch_any (wrote_pack text) s hr (by rw [hk]; rfl) b (fun _ => reads_json) (by unfold Pp.new Reader.new; simp only [hf1]; rfl) hb ⟨fun _ _ _ _ _ => trivial, fun _ _ _ => trivial⟩ w (Nat.zero_le _) trivial
def s18 : Setup := ⟨1, 3, 2, 9, 0⟩
set_option maxRecDepth 100000 in
set_option maxHeartbeats 4000000 in
theorem alive18_any (w : World) : Calls Tryz.prog 18 #[] w fun r w' => r = .returned (.bool true) ∧ Below w.heap.size w w' := by
 have HBat := Lib.hid (fun u => batch_pack s18 (by decide) rfl rfl ⟨#[91, 49, 93]⟩ (by decide) (fun _ => []) u)
 rw [show batch (fun _ => []) s18 (⟨#[91, 49, 93]⟩ : ByteArray).data.toList = ([145, 1], 0) from alive_pack _] at HBat
 have HR1 := Lib.hid (fun u => right_any ⟨1, 1, 1, 0, 0⟩ u)
 have HR2 := Lib.hid (fun u => right_any ⟨0, 0, 0, 0, 0⟩ u)
 rw [show right ⟨1, 1, 1, 0, 0⟩ = true from by decide] at HR1
 rw [show right ⟨0, 0, 0, 0, 0⟩ = false from by decide] at HR2
 have BT := Lib.hid (fun (u v : World) (b : Below w.heap.size w u) (b2 : Below u.heap.size u v) => (b.trans (b2.mono b.size) : Below w.heap.size w v))
 unfold Setup.val s18 at HBat
 unfold Setup.val at HR1 HR2
 simp only at HBat HR1 HR2
 go_enter Tryz.func18, Tryz.ntmps18
 go_wp2_with (fail)
 refine (HBat.out _).mono ?_
 rintro r w1 ⟨rfl, b1⟩
 have HB1 := Lib.hid b1
 clear b1
 go_wp2_with (fail)
 refine (HR1.out _).mono ?_
 rintro r w2 ⟨rfl, b2⟩
 have HB2 := Lib.hid (BT.out _ _ HB1.out b2)
 clear b2
 go_wp2_with (fail)
 refine (HR2.out _).mono ?_
 rintro r w3 ⟨rfl, b3⟩
 have HB3 := Lib.hid (BT.out _ _ HB2.out b3)
 clear b3
 go_wp2
 go_ret
 exact ⟨rfl, HB3.out⟩
theorem reads_cbor : Reads 2 where
 step r hk b n h w hi hw hf hn x := by
  cases r with
  | json p => cases hk
  | cbor p => exact cinstep_any (p := p) hi hw hf hn x
  | pack p => cases hk
theorem reads_pack : Reads 3 where
 step r hk b n h w hi hw hf hn x := by
  cases r with
  | json p => cases hk
  | cbor p => cases hk
  | pack p => exact pinstep_any (p := p) hi hw hf hn x
end Pip
end Go.Proofs.YthnbpnfaghjamaaGreat

/- The pipe where JSON is written; a pipe of any kind. -/
namespace Go.Proofs.YthnbpnfaghjamaaGreat
open Go.RowKit
open Json (Part Wr Txt)
namespace Pip
section
variable {ok : Part → Prop} {text : Part → List UInt8} {B : Nat} {Tb : World → Prop}
theorem wok_json (TX : Txt ok text B Tb) : Wok 1 6012 ok text B Tb where
 step W hk wb n h w hi hw hf hn hB hT p _ hp := by
  cases W with
  | json W => exact Json.step_any (W := W) hi hw ⟨hf.1, hf.2⟩ hn TX hB hT p hp
  | cbor W => cases hk
  | pack W => cases hk
 len W hk p _ hp := by
  cases W with
  | json W => exact Nat.le_succ_of_le (Json.Wr.step_len TX W p hp)
  | cbor W => cases hk
  | pack W => cases hk
 of := TX.of
 stage h := by cases h
 room := by decide
theorem wrote_json (TX : Txt ok text B Tb) : Wrote 1 6012 ok text B Tb where
 wok := wok_json TX
 write hi hf hn hk he l hl hfine hs hw hB hBw hT := write_json (wok_json TX) hi hf hn hk he l hl hfine hs hw hB hBw hT
theorem reads_kind (r : Reader) : Reads r.kind := by
 cases r with
 | json p => exact reads_json
 | cbor p => exact reads_cbor
 | pack p => exact reads_pack
theorem batch_with (TX : Txt ok text B Tb) (s : Setup) (hr : right s = true) (b : ByteArray) (hb : b.size ≤ 1000) (told : (Writer.new s.to).kind = 1 → (Pp.new s).Told ok text b.data.toList) (w : World) (hBw : B ≤ w.heap.size) (hT : Tb w) :
  Calls Tryz.prog 21 #[s.val, .string b] w fun e w' => e = .returned (.tuple #[.string ⟨(batch text s b.data.toList).1.toArray⟩, .int .i64 ((batch text s b.data.toList).2 : Int)]) ∧ Below w.heap.size w w' := by
 cases hX : Writer.new s.to with
 | json W => exact batch_any (wrote_json TX) s hr (by rw [hX]; rfl) b (fun _ => reads_kind _) rfl hb (told (by rw [hX]; rfl)) w hBw hT
 | cbor W => exact batch_any (wrote_cbor text) s hr (by rw [hX]; rfl) b (fun _ => reads_kind _) rfl hb ⟨fun _ _ _ _ _ => trivial, fun _ _ _ => trivial⟩ w (Nat.zero_le _) trivial
 | pack W => exact batch_any (wrote_pack text) s hr (by rw [hX]; rfl) b (fun _ => reads_kind _) rfl hb ⟨fun _ _ _ _ _ => trivial, fun _ _ _ => trivial⟩ w (Nat.zero_le _) trivial
end
def textN : Part → List UInt8 := fun _ => [110, 117, 108, 108]
def Pp.toldR (ok : Part → Bool) (text : Part → List UInt8) : Pp → List UInt8 → Bool
 | p, [] => p.may != 0 || p.input.fin.2.1.all ok
 | p, x :: b => (p.may != 0 || (p.input.step x).2.1.all ok) && (p.step text x).1.toldR ok text b
end Pip
end Go.Proofs.YthnbpnfaghjamaaGreat

/- The texts that JSON's writer writes of the parts that readers tell, whatever the library's tables hold. -/
namespace Go.Proofs.YthnbpnfaghjamaaGreat
open Go.RowKit
open Json (Part Wr Txt)
namespace Pip
open Esc (Tabs TabsAt)
theorem quoted' (l : List UInt8) : ((⟨#[34]⟩ : ByteArray) ++ ⟨l.toArray⟩ ++ ⟨#[34]⟩) = ⟨(34 :: (l ++ [34])).toArray⟩ := by
 apply ByteArray.ext
 simp
def okT : Part → Prop
 | .whole _ m => m < 18446744073709551616
 | .word s => s.size ≤ 1000 ∧ Esc.Val s.data.toList
 | .blob s => s.size ≤ 1000
 | .other _ => False
 | _ => True
def textT (T : Tabs) : Part → List UInt8
 | .bool true => [116, 114, 117, 101]
 | .bool false => [102, 97, 108, 115, 101]
 | .whole n m => Fmt.dec T n m
 | .word s => 34 :: (Esc.writeT T s ++ [34])
 | .blob s => 34 :: (Base.put s.data.toList ++ [34])
 | _ => [110, 117, 108, 108]
theorem writeT_length (T : Tabs) (s : ByteArray) : (Esc.writeT T s).length ≤ 6 * (s.size + 1) := Esc.outT_length T s (s.size + 1) 0
set_option maxRecDepth 100000 in
set_option maxHeartbeats 4000000 in
theorem textT_any (T : Tabs) (p : Part) (hp : okT p) (w : World) (hT : TabsAt T w) :
  Calls Tryz.prog 159 #[p.val] w fun r w' => r = .returned (.string ⟨(textT T p).toArray⟩) ∧ Below w.heap.size w w' := by
 have B0 := Lib.hid (fun o => (Below.refl w.heap.size w).alloc (Nat.le_refl _) o)
 have HT := Lib.hid (fun (o : Obj) => hT.of ((B0.out o).mono hT.size))
 have bel : ∀ {W : World} {o : Obj}, Below (w.alloc o).heap.size (w.alloc o) W → Below w.heap.size w W := fun {W o} b => (B0.out o).trans (b.mono (by rw [Json.size_alloc]; omega))
 have Bel := @Lib.hid _ @bel
 clear bel hT
 have a1 := Json.asBool p
 have a2 := Json.asWhole p
 have a3 := Json.asWord p
 have a4 := Json.asBlob p
 obtain ⟨V, hV⟩ : ∃ V, V = p.val := ⟨_, rfl⟩
 rw [← hV] at a1 a2 a3 a4 ⊢
 clear hV
 cases p with
 | whole n m =>
  simp only [Json.Part.isBool, Json.Part.inBool, Json.Part.isWhole, Json.Part.inWhole, Json.Part.isWord, Json.Part.inWord, Json.Part.isBlob, Json.Part.inBlob] at a1 a2 a3 a4
  have HP := Lib.hid (show m < 18446744073709551616 from hp)
  clear hp
  go_enter Tryz.func159, Tryz.ntmps159
  go_wp2_with (fail)
  refine (Fmt.print_any T n m HP.out _ (HT.out _)).mono ?_
  rintro e W ⟨rfl, b⟩
  go_wp2
  go_ret
  exact ⟨rfl, Bel.out b⟩
 | word s =>
  simp only [Json.Part.isBool, Json.Part.inBool, Json.Part.isWhole, Json.Part.inWhole, Json.Part.isWord, Json.Part.inWord, Json.Part.isBlob, Json.Part.inBlob] at a1 a2 a3 a4
  have hs : s.size ≤ 1000 := hp.1
  have hv := Lib.hid hp.2.sound
  have hq := Lib.hid (quoted' (Esc.writeT T s))
  have HF := Lib.hid (fun W (t : TabsAt T W) => Esc.writeT_any T s W (by omega) t hv.out)
  have hsz : (⟨(Esc.writeT T s).toArray⟩ : ByteArray).size ≤ 6006 := by
   rw [show (⟨(Esc.writeT T s).toArray⟩ : ByteArray).size = (Esc.writeT T s).length from List.size_toArray ..]
   have := writeT_length T s
   omega
  obtain ⟨S, hS⟩ : ∃ S : ByteArray, S = ⟨(Esc.writeT T s).toArray⟩ := ⟨_, rfl⟩
  rw [← hS] at hsz HF hq
  clear hS hs hp
  go_enter Tryz.func159, Tryz.ntmps159
  go_wp2_with (fail)
  refine (HF.out _ (HT.out _)).mono ?_
  rintro e W ⟨rfl, b⟩
  go_wp2
  go_ret
  exact ⟨Own.ret_string hq.out, Bel.out b⟩
 | blob s =>
  simp only [Json.Part.isBool, Json.Part.inBool, Json.Part.isWhole, Json.Part.inWhole, Json.Part.isWord, Json.Part.inWord, Json.Part.isBlob, Json.Part.inBlob] at a1 a2 a3 a4
  have hs : s.size ≤ 1000 := hp
  have hq := Lib.hid (quoted' (Base.put s.data.toList))
  have HF := Lib.hid (fun W => Put.any s W (by omega))
  have hsz : (⟨(Base.put s.data.toList).toArray⟩ : ByteArray).size ≤ 6000 := by
   rw [show (⟨(Base.put s.data.toList).toArray⟩ : ByteArray).size = (Base.put s.data.toList).length from List.size_toArray ..]
   have := Base.put_length s.data.toList
   have hl : s.data.toList.length = s.size := Array.length_toList
   omega
  obtain ⟨S, hS⟩ : ∃ S : ByteArray, S = ⟨(Base.put s.data.toList).toArray⟩ := ⟨_, rfl⟩
  rw [← hS] at hsz HF hq
  clear hS hs hp
  go_enter Tryz.func159, Tryz.ntmps159
  go_wp2_with (fail)
  refine (HF.out _).mono ?_
  rintro e W ⟨rfl, b⟩
  go_wp2
  go_ret
  exact ⟨Own.ret_string hq.out, Bel.out b⟩
 | bool y =>
  simp only [Json.Part.isBool, Json.Part.inBool, Json.Part.isWhole, Json.Part.inWhole, Json.Part.isWord, Json.Part.inWord, Json.Part.isBlob, Json.Part.inBlob] at a1 a2 a3 a4
  clear hp
  cases y
  all_goals go_enter Tryz.func159, Tryz.ntmps159
  all_goals go_wp2
  all_goals go_ret
  all_goals exact ⟨rfl, Below.refl _ _⟩
 | _ =>
  simp only [Json.Part.isBool, Json.Part.inBool, Json.Part.isWhole, Json.Part.inWhole, Json.Part.isWord, Json.Part.inWord, Json.Part.isBlob, Json.Part.inBlob] at a1 a2 a3 a4
  clear hp
  go_enter Tryz.func159, Tryz.ntmps159
  go_wp2
  go_ret
  exact ⟨rfl, B0.out _⟩
theorem txt_any (T : Tabs) : Txt okT (textT T) Esc.tabsEnd (TabsAt T) where
 len p hp := by
  cases p with
  | bool b => cases b <;> simp [textT]
  | whole n m => have := Fmt.dec_length T n m hp; show (Fmt.dec T n m).length ≤ _; omega
  | word s =>
   have := writeT_length T s
   have : s.size ≤ 1000 := hp.1
   show (34 :: (Esc.writeT T s ++ [34])).length ≤ _
   simp only [List.length_cons, List.length_append, List.length_nil]; omega
  | blob s =>
   have := Base.put_length s.data.toList
   have hs : s.data.toList.length = s.size := Array.length_toList
   have : s.size ≤ 1000 := hp
   show (34 :: (Base.put s.data.toList ++ [34])).length ≤ _
   simp only [List.length_cons, List.length_append, List.length_nil]; omega
  | _ => simp [textT]
 any p hp u hT := textT_any T p hp u hT
 of u v hT b := hT.of b
end Pip
end Go.Proofs.YthnbpnfaghjamaaGreat

/- A pipe of any kind, whatever the library's tables hold: New, Step, End, Batch. -/
namespace Go.Proofs.YthnbpnfaghjamaaGreat
open Go.RowKit
open Json (Part Wr Txt)
namespace Pip
open Esc (Tabs TabsAt)
theorem okT.of {v : Part} (h : Fine v) (hw : WV v) : okT v := by
 cases v with
 | whole n m => exact h.small
 | word s => exact ⟨h.small, hw s rfl⟩
 | blob s => exact h.small
 | other b => have := h.may; cases this
 | _ => trivial
theorem Reader.V.new (f : Int) (d : Nat) : (Reader.new f d).V := by
 unfold Reader.new
 split
 ·exact ⟨fun _ h => absurd (show (0 : Nat) = 1 from h) (by decide)⟩
 ·split
  ·exact CinV.new d
  ·exact PinV.new d
theorem Reader.V.step {r : Reader} (h : r.V) (b : UInt8) : (r.step b).1.V ∧ ∀ v ∈ (r.step b).2.1, WV v := by
 cases r with
 | json p => exact Jin.step_wv h b
 | cbor p =>
  show CinV (p.step b).1 ∧ ∀ v ∈ (p.step b).2.1, WV v
  unfold Cin.step
  split
  ·exact ⟨h, fun _ hv => by cases hv⟩
  ·rename_i k
   have o := CinO.act h (by simpa using k) b (Hd.step_new b) (fun hb => Hd.step_begun p.h b hb) (fun h0 => Hd.step_fin p.h b h0)
   exact ⟨o.p, o.told⟩
 | pack p =>
  show PinV (p.step b).1 ∧ ∀ v ∈ (p.step b).2.1, WV v
  unfold Pin.step
  split
  ·exact ⟨h, fun _ hv => by cases hv⟩
  ·rename_i k
   have o := PinO.act h (by simpa using k) b
   exact ⟨o.p, o.told⟩
theorem Reader.V.fin {r : Reader} (h : r.V) : ∀ v ∈ r.fin.2.1, WV v := by
 cases r with
 | json p => exact Jin.fin_wv h
 | cbor p => exact fun _ hv => by cases hv
 | pack p => exact fun _ hv => by cases hv
theorem Pp.step_v (text : Part → List UInt8) {p : Pp} (h : p.input.V) (x : UInt8) : (p.step text x).1.input.V := by
 unfold Pp.step
 split
 ·exact h
 ·rw [Pp.write_input]
  exact (h.step x).1
theorem Pp.all_v (text : Part → List UInt8) : ∀ (l : List UInt8) {p : Pp}, p.input.V → (p.all text l).1.input.V
 | [], _, h => h
 | x :: l, _, h => Pp.all_v text l (Pp.step_v text h x)
theorem Pp.step_ok {p : Pp} {n : Nat} (hf : p.Fits n) (h : p.input.V) (x : UInt8) : ∀ v ∈ (p.input.step x).2.1, okT v :=
 fun v hv => .of ((Reader.good_step hf.input x).fine v hv) ((h.step x).2 v hv)
theorem Pp.fin_ok {p : Pp} {n : Nat} (hf : p.Fits n) (h : p.input.V) : ∀ v ∈ p.input.fin.2.1, okT v :=
 fun v hv => .of ((Reader.good_fin hf.input).fine v hv) (h.fin v hv)
theorem Pp.told_any (text : Part → List UInt8) (s : Setup) (hr : right s = true) (b : List UInt8) : (Pp.new s).Told okT text b :=
 ⟨fun j _ _ => Pp.step_ok (Pp.Fits.all text (b.take j) (Pp.Fits.new s hr)) (Pp.all_v text _ (Reader.V.new _ _)) _,
  fun _ => Pp.fin_ok (Pp.Fits.all text b (Pp.Fits.new s hr)) (Pp.all_v text _ (Reader.V.new _ _))⟩
theorem batch_tabs (T : Tabs) (s : Setup) (hr : right s = true) (b : ByteArray) (hb : b.size ≤ 1000) (w : World) (hT : TabsAt T w) :
  Calls Tryz.prog 21 #[s.val, .string b] w fun e w' => e = .returned (.tuple #[.string ⟨(batch (textT T) s b.data.toList).1.toArray⟩, .int .i64 ((batch (textT T) s b.data.toList).2 : Int)]) ∧ Below w.heap.size w w' :=
 batch_with (txt_any T) s hr b hb (fun _ => Pp.told_any _ s hr _) w hT.size hT
end Pip
end Go.Proofs.YthnbpnfaghjamaaGreat

/- What a world's shape says of the library's three tables: they hold some numbers of their kinds. -/
namespace Go.Proofs.YthnbpnfaghjamaaGreat
open Go.RowKit
namespace Esc
theorem row_ints {P : Program} {w : World} {g n : Nat} {t : TypeId} {zero : Array Value} {k : IntKind} {ts : List TypeId} (h : w.ShapedOpen P) (hg : g < P.globals.size)
  (h0 : ((begin P (fun _ _ => 0) default).world.heap[g]?).bind Obj.row? = some (zero, t)) (hz : zero.size = n) (hb : P.buildable t = true) (hc : P.cellTypes P.depth t = some ts)
  (hu : ∀ u ∈ ts, P.underlying u = some (.int k)) (i : Nat) (hi : i < n) : ∃ m, w.cell? ⟨g, i, none⟩ = some (.int k m) ∧ k.min ≤ m ∧ m ≤ k.max := by
 obtain ⟨cs, hh, hs, hr⟩ := h.1 g zero t hg h0
 obtain ⟨ts', hts, _, hall⟩ := hr hb
 rw [hc] at hts
 cases hts
 have h1 : i < cs.size := by omega
 obtain ⟨u, hu', hok⟩ := hall i cs[i] (by simp [h1])
 have hm : u ∈ ts := List.mem_of_getElem? hu'
 have hcell : w.cell? ⟨g, i, none⟩ = some cs[i] := by simp [World.cell?, hh, h1]
 rw [hcell]
 unfold Cell.ok at hok
 rw [hu u hm] at hok
 cases hv : cs[i] <;> rw [hv] at hok <;> simp at hok
 case int k' m =>
  obtain ⟨rfl, h2⟩ := hok
  exact ⟨m, rfl, h2⟩
theorem first_at (w : World) (h : w.ShapedOpen Tryz.prog) (i : Nat) (hi : i < 256) : ∃ m, w.cell? ⟨1, i, none⟩ = some (.int .u8 m) ∧ (IntKind.u8).min ≤ m ∧ m ≤ (IntKind.u8).max :=
 row_ints (t := 234) (zero := Array.replicate 256 (.int .u8 0)) (ts := List.replicate 256 5) h (of_decide_eq_true (by kernel_rfl)) (by kernel_rfl) (by kernel_rfl) (by kernel_rfl) (by kernel_rfl)
  (fun u hu => by rw [List.eq_of_mem_replicate hu]; exact Tryz.underlying5) i hi
theorem accept_at (w : World) (h : w.ShapedOpen Tryz.prog) (i : Nat) (hi : i < 32) : ∃ m, w.cell? ⟨2, i, none⟩ = some (.int .u8 m) ∧ (IntKind.u8).min ≤ m ∧ m ≤ (IntKind.u8).max :=
 row_ints (t := 237) (zero := Array.replicate 32 (.int .u8 0)) (ts := List.replicate 32 5) h (of_decide_eq_true (by kernel_rfl)) (by kernel_rfl) (by kernel_rfl) (by kernel_rfl) (by kernel_rfl)
  (fun u hu => by rw [List.eq_of_mem_replicate hu]; exact Tryz.underlying5) i hi
theorem pow_at (w : World) (h : w.ShapedOpen Tryz.prog) (i : Nat) (hi : i < 20) : ∃ m, w.cell? ⟨3, i, none⟩ = some (.int .u64 m) ∧ (IntKind.u64).min ≤ m ∧ m ≤ (IntKind.u64).max :=
 row_ints (t := 239) (zero := Array.replicate 20 (.int .u64 0)) (ts := List.replicate 20 37) h (of_decide_eq_true (by kernel_rfl)) (by kernel_rfl) (by kernel_rfl) (by kernel_rfl) (by kernel_rfl)
  (fun u hu => by rw [List.eq_of_mem_replicate hu]; exact Tryz.underlying37) i hi
theorem nat_u8 {m : Int} (h : (IntKind.u8).min ≤ m ∧ m ≤ (IntKind.u8).max) : ∃ n : Nat, m = (n : Int) ∧ n < 256 := by
 have h1 : (0 : Int) ≤ m := h.1
 have h2 : m ≤ (255 : Int) := h.2
 exact ⟨m.toNat, by omega, by omega⟩
theorem nat_u64 {m : Int} (h : (IntKind.u64).min ≤ m ∧ m ≤ (IntKind.u64).max) : ∃ n : Nat, m = (n : Int) ∧ n < 18446744073709551616 := by
 have h1 : (0 : Int) ≤ m := h.1
 have h2 : m ≤ (18446744073709551615 : Int) := h.2
 exact ⟨m.toNat, by omega, by omega⟩
theorem pick {n B : Nat} {f : Nat → Nat → Prop} (h : ∀ i, i < n → ∃ m, f i m ∧ m < B) : ∃ g : Nat → Nat, ∀ i, i < n → f i (g i) ∧ g i < B := by
 refine ⟨fun i => if h' : i < n then Classical.choose (h i h') else 0, fun i hi => ?_⟩
 dsimp only
 rw [dif_pos hi]
 exact Classical.choose_spec (h i hi)
theorem weigh_cons {H : Type} {P : Program} {t : TypeId} {ts : List TypeId} {d : DataW H} {ds : List (DataW H)} (h : (DataW.weightsEach P (t :: ts) (d :: ds)).all (· ≤ reachBytes) = true) :
  (d.weights P t).all (· ≤ reachBytes) = true ∧ (DataW.weightsEach P ts ds).all (· ≤ reachBytes) = true := by
 rw [DataW.weightsEach, List.all_append, Bool.and_eq_true] at h
 exact h
theorem weigh_string {H : Type} {P : Program} {t : TypeId} {s : ByteArray} (h : ((DataW.lit (.string s.data.toList) : DataW H).weights P t).all (· ≤ reachBytes) = true) : s.size ≤ 140737488355327 := by
 rw [DataW.weights] at h
 simp only [List.all_cons, List.all_nil, Bool.and_true, decide_eq_true_eq, Array.length_toList] at h
 have : s.data.size ≤ 140737488351232 := h
 exact Nat.le_trans this (by decide)
theorem tabs_of (w : World) (h : w.ShapedOpen Tryz.prog) : ∃ T, TabsAt T w := by
 obtain ⟨f, hf⟩ := pick (n := 256) (B := 256) (f := fun i m => w.cell? ⟨1, i, none⟩ = some (.int .u8 (m : Int))) (fun i hi => by
  obtain ⟨m, hm, hb⟩ := first_at w h i hi
  obtain ⟨n, rfl, hn⟩ := nat_u8 hb
  exact ⟨n, hm, hn⟩)
 obtain ⟨a, ha⟩ := pick (n := 32) (B := 256) (f := fun i m => w.cell? ⟨2, i, none⟩ = some (.int .u8 (m : Int))) (fun i hi => by
  obtain ⟨m, hm, hb⟩ := accept_at w h i hi
  obtain ⟨n, rfl, hn⟩ := nat_u8 hb
  exact ⟨n, hm, hn⟩)
 obtain ⟨p, hp⟩ := pick (n := 20) (B := 18446744073709551616) (f := fun i m => w.cell? ⟨3, i, none⟩ = some (.int .u64 (m : Int))) (fun i hi => by
  obtain ⟨m, hm, hb⟩ := pow_at w h i hi
  obtain ⟨n, rfl, hn⟩ := nat_u64 hb
  exact ⟨n, hm, hn⟩)
 refine ⟨⟨f, fun i => a (i * 2), fun i => a (i * 2 + 1), p⟩, fun c hc => (hf c hc).1, fun i hi => ⟨(ha (i * 2) (by omega)).1, (ha (i * 2 + 1) (by omega)).1⟩, fun c hc => (hp c hc).1, ?_⟩
 exact ⟨fun c hc => (hf c hc).2, fun c hc => (ha (c * 2) (by omega)).2, fun c hc => (ha (c * 2 + 1) (by omega)).2, fun c hc => (hp c hc).2⟩
end Esc
end Go.Proofs.YthnbpnfaghjamaaGreat

/- A pipe's Step and End, whatever its formats are and whatever the library's tables hold. -/
namespace Go.Proofs.YthnbpnfaghjamaaGreat
open Go.RowKit
open Json (Part Wr Txt)
namespace Pip
open Esc (Tabs TabsAt)
theorem step_tabs (T : Tabs) {p : Pp} {b n : Nat} {h : Own.Heap} {w : World} (hi : p.Is b h) (hw : Own.Has w h) (hf : p.Fits n) (hn : n ≤ 80000) (hv : p.input.V) (x : UInt8) (hB : ∀ x ∈ Own.blocks h, Esc.tabsEnd ≤ x) (hT : TabsAt T w) :
  Calls Tryz.prog 20 #[.pointer (some ⟨b, 0, none⟩), .int .u8 (x.toNat : Int)] w (PpDoes (p.step (textT T) x) b h w) := by
 cases hX : p.output with
 | json W => exact step_any (wrote_json (txt_any T)) (reads_kind _) hi hw hf hn (by rw [hX]; rfl) rfl x (fun _ => Pp.step_ok hf hv x) hB hT.size hT
 | cbor W => exact step_any (wrote_cbor (textT T)) (reads_kind _) hi hw hf hn (by rw [hX]; rfl) rfl x (fun _ _ _ => trivial) (fun _ _ => Nat.zero_le _) (Nat.zero_le _) trivial
 | pack W => exact step_any (wrote_pack (textT T)) (reads_kind _) hi hw hf hn (by rw [hX]; rfl) rfl x (fun _ _ _ => trivial) (fun _ _ => Nat.zero_le _) (Nat.zero_le _) trivial
theorem end_tabs (T : Tabs) {p : Pp} {b n : Nat} {h : Own.Heap} {w : World} (hi : p.Is b h) (hw : Own.Has w h) (hf : p.Fits n) (hn : n ≤ 80000) (hv : p.input.V) (hB : ∀ x ∈ Own.blocks h, Esc.tabsEnd ≤ x) (hT : TabsAt T w) :
  Calls Tryz.prog 24 #[.pointer (some ⟨b, 0, none⟩)] w (PpDoes (p.fin (textT T)) b h w) := by
 cases hX : p.output with
 | json W => exact end_any (wrote_json (txt_any T)) hi hw hf hn (by rw [hX]; rfl) (fun _ => Pp.fin_ok hf hv) hB hT.size hT
 | cbor W => exact end_any (wrote_cbor (textT T)) hi hw hf hn (by rw [hX]; rfl) (fun _ _ _ => trivial) (fun _ _ => Nat.zero_le _) (Nat.zero_le _) trivial
 | pack W => exact end_any (wrote_pack (textT T)) hi hw hf hn (by rw [hX]; rfl) (fun _ _ _ => trivial) (fun _ _ => Nat.zero_le _) (Nat.zero_le _) trivial
theorem Pp.new_held (s : Setup) : (Pp.new s).heldLen = 0 := by
 unfold Pp.heldLen Pp.new
 dsimp only
 split
 ·rfl
 ·rename_i k
  split at k
  ·obtain rfl := Option.some.inj k; rfl
  ·cases k
theorem all_len_tabs (T : Tabs) (s : Setup) (hr : right s = true) (l : List UInt8) : ((Pp.new s).all (textT T) l).2.length ≤ 6012 * (18 * l.length) := by
 have hf := Pp.Fits.new s hr
 have h0 := Pp.new_held s
 have ht := Pp.told_any (textT T) s hr l
 cases hX : (Pp.new s).output with
 | json W =>
  have := (wrote_json (txt_any T)).wok.all_len l hf (by rw [hX]; rfl) ht.step
  rw [h0, Nat.zero_add] at this
  omega
 | cbor W =>
  have := (wrote_cbor (textT T)).wok.all_len l hf (by rw [hX]; rfl) (fun _ _ _ _ _ => trivial)
  rw [h0, Nat.zero_add] at this
  omega
 | pack W =>
  have := (wrote_pack (textT T)).wok.all_len l hf (by rw [hX]; rfl) (fun _ _ _ _ _ => trivial)
  rw [h0, Nat.zero_add] at this
  omega
theorem batch_len_tabs (T : Tabs) (s : Setup) (hr : right s = true) (l : List UInt8) : (batch (textT T) s l).1.length ≤ 6012 * (18 * (l.length + 1)) := by
 have hf := Pp.Fits.new s hr
 have hfa := hf.all (textT T) l
 have h0 := Pp.new_held s
 have ht := Pp.told_any (textT T) s hr l
 have hka := Pp.all_kind (textT T) l (Pp.new s)
 rw [batch_all _ _ hr, List.length_append]
 cases hX : (Pp.new s).output with
 | json W =>
  have h1 := (wrote_json (txt_any T)).wok.all_len l hf (by rw [hX]; rfl) ht.step
  have h2 := (wrote_json (txt_any T)).wok.fin_len hfa (hka.trans (by rw [hX]; rfl)) ht.fin
  rw [h0, Nat.zero_add] at h1
  omega
 | cbor W =>
  have h1 := (wrote_cbor (textT T)).wok.all_len l hf (by rw [hX]; rfl) (fun _ _ _ _ _ => trivial)
  have h2 := (wrote_cbor (textT T)).wok.fin_len hfa (hka.trans (by rw [hX]; rfl)) (fun _ _ _ => trivial)
  rw [h0, Nat.zero_add] at h1
  omega
 | pack W =>
  have h1 := (wrote_pack (textT T)).wok.all_len l hf (by rw [hX]; rfl) (fun _ _ _ _ _ => trivial)
  have h2 := (wrote_pack (textT T)).wok.fin_len hfa (hka.trans (by rw [hX]; rfl)) (fun _ _ _ => trivial)
  rw [h0, Nat.zero_add] at h1
  omega
end Pip
end Go.Proofs.YthnbpnfaghjamaaGreat

/- A setup as an argument: what a reading says of its cells. -/
namespace Go.Proofs.YthnbpnfaghjamaaGreat
open Go.RowKit Go.ChangeShapes Go.WideShapes Go.Deep
namespace Pip
def Setup.vals (s : Setup) : List Value := [.int .i64 s.from_, .int .i64 s.to, .int .i64 s.depth, .int .i64 s.stage, .int .i64 s.limit]
structure Setup.Fine (s : Setup) : Prop where
 from_ : -9223372036854775808 ≤ s.from_ ∧ s.from_ ≤ 9223372036854775807
 to_ : -9223372036854775808 ≤ s.to ∧ s.to ≤ 9223372036854775807
 depth : -9223372036854775808 ≤ s.depth ∧ s.depth ≤ 9223372036854775807
 stage : -9223372036854775808 ≤ s.stage ∧ s.stage ≤ 9223372036854775807
 limit : -9223372036854775808 ≤ s.limit ∧ s.limit ≤ 9223372036854775807
theorem wf64 {z : Int} (h : (Lit.int .i64 z).wf = true) : -9223372036854775808 ≤ z ∧ z ≤ 9223372036854775807 := by
 have h' : (decide ((-9223372036854775808 : Int) ≤ z) && decide (z ≤ (9223372036854775807 : Int))) = true := h
 simpa using h'
theorem kInt : Tryz.prog.cellsOf 3 = 1 := by kernel_rfl
theorem kSetup : Tryz.prog.cellsOf 23 = 5 := by kernel_rfl
section
variable {H : Type} {enc : TypeId × Value → H} {w : World} {base : Nat} {sp : Nat → Bool} {held : Bool}
set_option maxRecDepth 100000 in
theorem setup_of {fuel : Nat} {cs : List Value} {x : DataW H × List MemPlace} (h : DataW.trod enc Tryz.prog w base sp held fuel 23 cs = some x) : ∃ s : Setup, cs = s.vals ∧ s.Fine := by
 obtain ⟨xs, n, _, _, hl, hxl, hall⟩ := DataW.trod_struct Tryz.underlying23 h
 rw [kSetup] at hl
 match cs, hl with
 | [c0, c1, c2, c3, c4], _ =>
  match xs, hxl with
  | [y0, y1, y2, y3, y4], _ =>
   have g0 : DataW.trod enc Tryz.prog w base sp held n 3 (([c0, c1, c2, c3, c4].drop 0).take (Tryz.prog.cellsOf 3)) = some y0 := hall 0 _ rfl
   have g1 : DataW.trod enc Tryz.prog w base sp held n 3 (([c0, c1, c2, c3, c4].drop 1).take (Tryz.prog.cellsOf 3)) = some y1 := hall 1 _ rfl
   have g2 : DataW.trod enc Tryz.prog w base sp held n 3 (([c0, c1, c2, c3, c4].drop 2).take (Tryz.prog.cellsOf 3)) = some y2 := hall 2 _ rfl
   have g3 : DataW.trod enc Tryz.prog w base sp held n 3 (([c0, c1, c2, c3, c4].drop 3).take (Tryz.prog.cellsOf 3)) = some y3 := hall 3 _ rfl
   have g4 : DataW.trod enc Tryz.prog w base sp held n 3 (([c0, c1, c2, c3, c4].drop 4).take (Tryz.prog.cellsOf 3)) = some y4 := hall 4 _ rfl
   rw [kInt] at g0 g1 g2 g3 g4
   obtain ⟨z0, e0, _, w0⟩ := DataW.trod_int Tryz.underlying3 g0
   obtain ⟨z1, e1, _, w1⟩ := DataW.trod_int Tryz.underlying3 g1
   obtain ⟨z2, e2, _, w2⟩ := DataW.trod_int Tryz.underlying3 g2
   obtain ⟨z3, e3, _, w3⟩ := DataW.trod_int Tryz.underlying3 g3
   obtain ⟨z4, e4, _, w4⟩ := DataW.trod_int Tryz.underlying3 g4
   simp only [List.drop_zero, List.drop_succ_cons, List.take_succ_cons, List.take_zero, List.cons.injEq, and_true] at e0 e1 e2 e3 e4
   subst e0 e1 e2 e3 e4
   exact ⟨⟨z0, z1, z2, z3, z4⟩, rfl, ⟨wf64 w0, wf64 w1, wf64 w2, wf64 w3, wf64 w4⟩⟩
set_option maxRecDepth 100000 in
theorem open_setup {r : Reach} {b0 : Nat} {v : Value} {d : DataW H} {p : List MemPlace} (hv : Value.okWide Tryz.prog w r b0 23 v) (h : DataW.Trod enc Tryz.prog w base sp held 23 v d p) : ∃ s : Setup, v = s.val ∧ s.Fine := by
 obtain ⟨cs, rfl, _⟩ := okWide_struct Tryz.underlying23 hv
 obtain ⟨fuel, hf⟩ := h
 obtain ⟨s, hs, hf⟩ := setup_of hf
 refine ⟨s, ?_, hf⟩
 show Value.agg cs = .agg s.vals.toArray
 congr 1
 apply Array.toList_inj.1
 simpa [Value.cells] using hs
end
end Pip
end Go.Proofs.YthnbpnfaghjamaaGreat

/- What a pipe holds is bounded, in plain Lean. No program in sight. -/
namespace Go.Proofs.YthnbpnfaghjamaaGreat
namespace Pip
open Json (Part Wr)
theorem Jin.value_d (p : Jin) (t : Tok) : (p.value t).1.depth = p.depth := by
 unfold Jin.value
 repeat' split
 all_goals rfl
theorem Jin.token_d (p : Jin) (t : Tok) : (p.token t).1.depth = p.depth := by
 unfold Jin.token
 repeat' split
 all_goals first | rfl | exact Jin.value_d _ _
theorem Jin.parts_d : ∀ (l : List Tok) (p : Jin) (e : Nat), (p.parts l e).1.depth = p.depth
 | [], _, _ => rfl
 | t :: l, p, e => by
  unfold Jin.parts
  split
  ·exact Jin.token_d p t
  ·exact (Jin.parts_d l _ e).trans (Jin.token_d p t)
theorem Jin.step_d (p : Jin) (b : UInt8) : (p.step b).1.depth = p.depth := by
 unfold Jin.step
 split
 ·rfl
 ·exact Jin.parts_d _ _ _
theorem Core.begin_d (c : Core) (m : Bool) (n : Int) : (c.begin m n).1.depth = c.depth := by
 unfold Core.begin
 split <;> rfl
theorem Core.break_d (c : Core) : c.break.1.depth = c.depth := by
 unfold Core.break
 repeat' split
 all_goals rfl
theorem Core.length_d (c : Core) (w : Bool) (n : Nat) : (c.length w n).1.depth = c.depth := by
 unfold Core.length
 dsimp only
 repeat' split
 all_goals rfl
theorem Core.byte_d (c : Core) (b : UInt8) : (c.byte b).1.depth = c.depth := by
 unfold Core.byte
 repeat' split
 all_goals rfl
theorem Cin.behind_d (p : Cin) (m v : Nat) (o : Bool) : (p.behind m v o).1.c.depth = p.c.depth := by
 unfold Cin.behind
 repeat' split
 all_goals first | rfl | exact Core.length_d _ _ _ | exact Core.begin_d _ _ _
theorem Cin.head_d (p : Cin) (b : UInt8) : (p.head b).1.c.depth = p.c.depth := by
 unfold Cin.head
 dsimp only
 repeat' split
 all_goals first | rfl | exact Cin.behind_d _ _ _ _
theorem Cin.simple_d (p : Cin) (n : Nat) : (p.simple n).1.c.depth = p.c.depth := by
 unfold Cin.simple
 repeat' split
 all_goals rfl
theorem Cin.step_d (p : Cin) (b : UInt8) : (p.step b).1.c.depth = p.c.depth := by
 unfold Cin.step
 split
 ·rfl
 ·show (p.act b).1.c.depth = _
  unfold Cin.act
  split
  ·exact Core.byte_d _ _
  ·split
   ·exact Cin.head_d _ _
   ·split
    ·unfold Cin.chunk
     split
     ·rfl
     ·by_cases k : b.toNat / 32 ≠ (if p.c.word then 3 else 2) ∨ b.toNat % 32 = 31
      ·rw [if_pos k]; rfl
      ·rw [if_neg k]; exact Cin.head_d _ _
    ·unfold Cin.item
     dsimp only
     repeat' split
     all_goals first | rfl | exact Core.break_d _ | exact Cin.simple_d _ _ | exact Cin.head_d _ _
theorem Pin.ite_d {c : Prop} [Decidable c] {a b : Pin × List Part} {d : Nat} (ha : a.1.c.depth = d) (hb : b.1.c.depth = d) : (if c then a else b).1.c.depth = d := by
 split
 ·exact ha
 ·exact hb
theorem Pin.count_d (p : Pin) (m : Bool) (n : Nat) : (p.count m n).1.c.depth = p.c.depth := by
 unfold Pin.count
 split
 ·rfl
 ·exact Core.begin_d _ _ _
theorem Pin.behind_d (p : Pin) (k v : Nat) : (p.behind k v).1.c.depth = p.c.depth := by
 unfold Pin.behind
 repeat' split
 all_goals first | rfl | exact Core.length_d _ _ _ | exact Pin.count_d _ _ _
theorem Pin.step_d (p : Pin) (b : UInt8) : (p.step b).1.c.depth = p.c.depth := by
 unfold Pin.step
 split
 ·rfl
 ·show (p.act b).1.c.depth = _
  unfold Pin.act
  split
  ·exact Core.byte_d _ _
  ·split
   ·unfold Pin.number
    dsimp only
    split
    ·rfl
    ·exact Pin.behind_d _ _ _
   ·unfold Pin.item Pin.long
    dsimp only
    repeat' (refine Pin.ite_d ?_ ?_)
    all_goals first | rfl | exact Core.length_d _ _ _ | exact Pin.count_d _ _ _ | exact Core.begin_d _ _ _
theorem Reader.step_d (r : Reader) (b : UInt8) : (r.step b).1.depth = r.depth := by
 cases r with
 | json p => exact Jin.step_d p b
 | cbor p => exact Cin.step_d p b
 | pack p => exact Pin.step_d p b
theorem Reader.Fits.held {r : Reader} {n : Nat} (h : r.Fits n) : r.held ≤ 200 + r.depth := by
 cases r with
 | json p => exact Jin.Fits.held h
 | cbor p => exact Core.Fits.held (show p.Fits n from h).c
 | pack p => exact Core.Fits.held (show p.Fits n from h).c
theorem Stg.hold_limit (s : Stg) (v : Part) : (s.hold v).1.limit ≤ s.limit := by
 unfold Stg.hold
 split
 ·exact Nat.zero_le _
 ·exact Nat.le_refl _
theorem Stg.step_limit (s : Stg) (v : Part) : (s.step v).1.limit ≤ s.limit := by
 unfold Stg.step
 split
 ·exact Nat.le_refl _
 ·split
  ·exact Nat.le_refl _
  ·split
   ·exact Nat.le_refl _
   ·split
    ·unfold Stg.close
     split
     ·exact Nat.le_refl _
     ·dsimp only
      split
      ·exact Stg.hold_limit _ _
      ·exact Nat.le_refl _
    ·exact Stg.hold_limit _ _
def Pp.Under (p : Pp) (g : Nat) : Prop := ∀ s, p.hold = some s → s.limit ≤ g
theorem Pp.Under.one {p : Pp} {g : Nat} (h : p.Under g) (text : Part → List UInt8) (v : Part) : (p.one text v).1.Under g := by
 unfold Pp.one
 split
 ·exact fun s hs => by cases hs
 ·rename_i s hs
  have := h s hs
  split
  ·intro x hx; cases hx; exact Nat.le_trans (Stg.step_limit s v) this
  ·intro x hx; cases hx; exact Nat.le_trans (Stg.step_limit s v) this
theorem Pp.Under.write (text : Part → List UInt8) {g : Nat} : ∀ (l : List Part) {p : Pp} (e : Nat), p.Under g → (p.write text l e).1.Under g
 | [], _, _, h => h
 | v :: l, p, e, h => by
  unfold Pp.write
  split
  ·exact h.one text v
  ·exact Pp.Under.write text l e (h.one text v)
theorem Pp.Under.step {p : Pp} {g : Nat} (h : p.Under g) (text : Part → List UInt8) (x : UInt8) : (p.step text x).1.Under g ∧ (p.step text x).1.input.depth = p.input.depth := by
 unfold Pp.step
 split
 ·exact ⟨h, rfl⟩
 ·refine ⟨Pp.Under.write text _ _ h, ?_⟩
  rw [Pp.write_input]
  exact Reader.step_d _ _
theorem Pp.Under.all (text : Part → List UInt8) {g : Nat} : ∀ (l : List UInt8) {p : Pp}, p.Under g → (p.all text l).1.Under g ∧ (p.all text l).1.input.depth = p.input.depth
 | [], _, h => ⟨h, rfl⟩
 | x :: l, p, h => by
  have h1 := h.step text x
  have h2 := Pp.Under.all text l h1.1
  exact ⟨h2.1, h2.2.trans h1.2⟩
theorem Pp.new_under (s : Setup) : (Pp.new s).Under s.stage.toNat := by
 intro x hx
 unfold Pp.new at hx
 dsimp only at hx
 split at hx
 ·cases hx; exact Nat.le_refl _
 ·cases hx
theorem Pp.new_depth (s : Setup) : (Pp.new s).input.depth = s.depth.toNat := by
 show (Reader.new s.from_ s.depth.toNat).depth = _
 unfold Reader.new
 split
 ·rfl
 ·split <;> rfl
theorem Pp.held_le (text : Part → List UInt8) (s : Setup) (hr : right s = true) (l : List UInt8) : ((Pp.new s).all text l).1.held ≤ 200 + s.stage.toNat + s.depth.toNat ∧ (((Pp.new s).all text l).1.may ≠ 0 → ((Pp.new s).all text l).1.held = 0) := by
 have hf := Pp.Fits.all text l (Pp.Fits.new s hr)
 have hu := Pp.Under.all text l (Pp.new_under s)
 rw [Pp.new_depth] at hu
 generalize ((Pp.new s).all text l).1 = p at hf hu ⊢
 have hi := hf.input.held
 rw [hu.2] at hi
 unfold Pp.held
 refine ⟨?_, fun h => if_pos h⟩
 split
 ·exact Nat.zero_le _
 ·cases hh : p.hold with
  | none => dsimp only; omega
  | some x =>
   have h1 := hu.1 x hh
   have h2 := (hf.hold x hh).size
   dsimp only
   omega
end Pip
end Go.Proofs.YthnbpnfaghjamaaGreat

/- How much readers hold: asked for, nothing turns but draws. -/
namespace Go.Proofs.YthnbpnfaghjamaaGreat
open Go.RowKit
open Json (Part)
namespace Pip
section
variable {c : Core} {T : TypeId} {b : Nat} {post : List Value} {h : Own.Heap} {w : World}
set_option maxRecDepth 100000 in
set_option maxHeartbeats 2000000 in
theorem cheldq_any {n : Nat} (hi : c.Is T b post h) (hw : Own.Has w h) (hf : c.Fits n) :
  Calls Tryz.prog 123 #[.pointer (some ⟨b, 0, none⟩)] w fun e w' => e = .returned (.int .i64 (c.held : Int)) ∧ ∃ m, w' = w.drewN m := by
 have hs1 := hf.s
 have hd := hf.deep
 have hd2 := hf.depth
 obtain ⟨oa, oc, sa, sc, ho, hs, rfl, h1, h2⟩ := hi.opened_
 have c3 := hw.cell b _ _ (List.mem_cons_self ..) 3 _ rfl
 have c1 := hw.cell b _ _ (List.mem_cons_self ..) 1 _ rfl
 have c7 := hw.cell b _ _ (List.mem_cons_self ..) 7 _ rfl
 have HP := Lib.hid (show c.held = if c.e ≠ 0 then 0 else c.s.length + c.opened.length from rfl)
 generalize c.held = O at HP ⊢
 have HW := Lib.hid (show (c.s.length : Int) + (c.opened.length : Int) = ((c.s.length + c.opened.length : Nat) : Int) by omega)
 rcases Nat.eq_zero_or_pos c.e with h0 | h0
 ·have HQ := Lib.hid (show O = c.s.length + c.opened.length by rw [HP.out, if_neg (by omega)])
  rw [h0] at c3
  clear hi hw h1 h2 HP h0 hf
  go_enter Tryz.func123, Tryz.ntmps123
  go_wp2
  go_quiet (fail)
  go_wp2
  go_ret
  exact ⟨by rw [HQ.out]; exact Own.ret_int HW.out, _, rfl⟩
 ·have hne : ((c.e : Int) != 0) = true := by rw [bne_iff_ne]; omega
  have HQ := Lib.hid (show O = 0 by rw [HP.out, if_pos (by omega)])
  clear hi hw h1 h2 HP h0 hf
  go_enter Tryz.func123, Tryz.ntmps123
  go_wp2
  go_ret
  exact ⟨by rw [HQ.out]; rfl, 0, rfl⟩
end
section
variable {p : Jin} {b : Nat} {h : Own.Heap} {w : World}
set_option maxRecDepth 100000 in
set_option maxHeartbeats 2000000 in
theorem jheldq_any (hi : p.Is b h) (hw : Own.Has w h) (hf : p.Fits) :
  Calls Tryz.prog 92 #[.pointer (some ⟨b, 0, none⟩)] w fun e w' => e = .returned (.int .i64 (p.held : Int)) ∧ ∃ m, w' = w.drewN m := by
 obtain ⟨c26, -⟩ := hi.e_cell hw
 by_cases he : p.e = 0
 ·have HP := Lib.hid (show p.held = p.l.held + p.maps.length by unfold Jin.held; rw [if_neg (by omega)])
  have hB := hf.l.held
  have hM : p.maps.length ≤ 16 := Nat.le_trans hf.maps hf.depth
  obtain ⟨mv, hm, hl, hs, il, rfl⟩ := hi
  have HL := Lib.hid (fun n => (lheld_any il (hw.left.drewN n)).mono fun e u hu => (hu : e = .returned (.int .i64 (p.l.held : Int)) ∧ u = w.drewN n))
  obtain ⟨a, c, rfl⟩ := hs.len
  rw [List.length_map] at *
  obtain ⟨hpo, pp, sv, hb, hp, hB2, rfl⟩ := il
  have c24 := hw.left.cell b _ _ (List.mem_cons_self ..) 24 _ rfl
  generalize p.l.held = L at HP HL hB
  generalize p.held = PH at HP ⊢
  generalize p.maps.length = M at *
  rw [he] at c26
  clear hw hf hs he hp hB2 hpo
  go_enter Tryz.func92, Tryz.ntmps92
  go_wp2_with (fail)
  go_quiet ((go_at_call 94; exact Calls.quiet_of_same (HL.out _)))
  go_wp2
  go_ret
  exact ⟨by rw [HP.out]; exact congrArg (fun z => Ending.returned (.int .i64 z)) (show (L : Int) + (M : Int) = ((L + M : Nat) : Int) by omega), _, rfl⟩
 ·have HP := Lib.hid (show p.held = 0 by unfold Jin.held; rw [if_pos he])
  have hmb : ((p.e : Int) != 0) = true := by simp; omega
  generalize p.held = PH at HP ⊢
  clear hi hw hf he
  go_enter Tryz.func92, Tryz.ntmps92
  go_wp2
  go_ret
  exact ⟨by rw [HP.out]; rfl, 0, rfl⟩
end
section
variable {p : Cin} {b : Nat} {h : Own.Heap} {w : World}
set_option maxRecDepth 100000 in
set_option maxHeartbeats 4000000 in
theorem cinheldq_any {n : Nat} (hi : p.Is b h) (hw : Own.Has w h) (hf : p.c.Fits n) :
  Calls Tryz.prog 121 #[.pointer (some ⟨b, 0, none⟩)] w fun e w' => e = .returned (.int .i64 (p.c.held : Int)) ∧ ∃ m, w' = w.drewN m := by
 have HO := Lib.hid (cheldq_any hi hw hf)
 clear hi hw hf
 go_enter Tryz.func121, Tryz.ntmps121
 go_wp2_with (fail)
 refine HO.out.mono ?_
 rintro e w2 ⟨rfl, m, rfl⟩
 go_wp2
 go_ret
 exact ⟨rfl, m, rfl⟩
end
section
variable {p : Pin} {b : Nat} {h : Own.Heap} {w : World}
set_option maxRecDepth 100000 in
set_option maxHeartbeats 4000000 in
theorem pinheldq_any {n : Nat} (hi : p.Is b h) (hw : Own.Has w h) (hf : p.c.Fits n) :
  Calls Tryz.prog 146 #[.pointer (some ⟨b, 0, none⟩)] w fun e w' => e = .returned (.int .i64 (p.c.held : Int)) ∧ ∃ m, w' = w.drewN m := by
 have HO := Lib.hid (cheldq_any hi hw hf)
 clear hi hw hf
 go_enter Tryz.func146, Tryz.ntmps146
 go_wp2_with (fail)
 refine HO.out.mono ?_
 rintro e w2 ⟨rfl, m, rfl⟩
 go_wp2
 go_ret
 exact ⟨rfl, m, rfl⟩
end
end Pip
end Go.Proofs.YthnbpnfaghjamaaGreat

/- pipe.Pipe: Over, Held. -/
namespace Go.Proofs.YthnbpnfaghjamaaGreat
open Go.RowKit
open Json (Part Wr)
namespace Pip
theorem step_late (T : Esc.Tabs) {p : Pp} {b n : Nat} {h : Own.Heap} {w : World} (hi : p.Is b h) (hw : Own.Has w h) (hf : p.Fits n) (hn : n ≤ 80000) (hm : p.may ≠ 0) (x : UInt8) (hB : ∀ x ∈ Own.blocks h, Esc.tabsEnd ≤ x) (hT : Esc.TabsAt T w) :
  Calls Tryz.prog 20 #[.pointer (some ⟨b, 0, none⟩), .int .u8 (x.toNat : Int)] w fun e w' => ∃ h', e = .returned (.tuple #[.string ⟨#[]⟩, .int .i64 (p.may : Int)]) ∧ p.Is b h' ∧ Own.Turn h h' w w' := by
 have key : Calls Tryz.prog 20 #[.pointer (some ⟨b, 0, none⟩), .int .u8 (x.toNat : Int)] w (PpDoes (p.step (textT T) x) b h w) := by
  cases hX : p.output with
  | json W => exact step_any (wrote_json (txt_any T)) (reads_kind _) hi hw hf hn (by rw [hX]; rfl) rfl x (fun h => absurd h hm) hB hT.size hT
  | cbor W => exact step_any (wrote_cbor (textT T)) (reads_kind _) hi hw hf hn (by rw [hX]; rfl) rfl x (fun _ _ _ => trivial) (fun _ _ => Nat.zero_le _) (Nat.zero_le _) trivial
  | pack W => exact step_any (wrote_pack (textT T)) (reads_kind _) hi hw hf hn (by rw [hX]; rfl) rfl x (fun _ _ _ => trivial) (fun _ _ => Nat.zero_le _) (Nat.zero_le _) trivial
 rw [Pp.step_over _ _ _ hm] at key
 exact key
theorem end_late (T : Esc.Tabs) {p : Pp} {b n : Nat} {h : Own.Heap} {w : World} (hi : p.Is b h) (hw : Own.Has w h) (hf : p.Fits n) (hn : n ≤ 80000) (hm : p.may ≠ 0) (hB : ∀ x ∈ Own.blocks h, Esc.tabsEnd ≤ x) (hT : Esc.TabsAt T w) :
  Calls Tryz.prog 24 #[.pointer (some ⟨b, 0, none⟩)] w fun e w' => ∃ h', e = .returned (.tuple #[.string ⟨#[]⟩, .int .i64 (p.may : Int)]) ∧ p.Is b h' ∧ Own.Turn h h' w w' := by
 have key : Calls Tryz.prog 24 #[.pointer (some ⟨b, 0, none⟩)] w (PpDoes (p.fin (textT T)) b h w) := by
  cases hX : p.output with
  | json W => exact end_any (wrote_json (txt_any T)) hi hw hf hn (by rw [hX]; rfl) (fun h => absurd h hm) hB hT.size hT
  | cbor W => exact end_any (wrote_cbor (textT T)) hi hw hf hn (by rw [hX]; rfl) (fun _ _ _ => trivial) (fun _ _ => Nat.zero_le _) (Nat.zero_le _) trivial
  | pack W => exact end_any (wrote_pack (textT T)) hi hw hf hn (by rw [hX]; rfl) (fun _ _ _ => trivial) (fun _ _ => Nat.zero_le _) (Nat.zero_le _) trivial
 rw [Pp.fin_over _ _ hm] at key
 exact key
set_option maxRecDepth 100000 in
theorem over_any {p : Pp} {b : Nat} {h : Own.Heap} {w : World} (hi : p.Is b h) (hw : Own.Has w h) :
  Calls Tryz.prog 25 #[.pointer (some ⟨b, 0, none⟩)] w fun e w' => e = .returned (.bool (decide (p.may ≠ 0))) ∧ w = w' := by
 have HM := Lib.hid (may_any hi hw)
 clear hi hw
 generalize p.may = m at HM ⊢
 by_cases h0 : m = 0
 ·subst h0
  go_enter Tryz.func25, Tryz.ntmps25
  go_wp2_with (fail)
  refine HM.out.mono ?_
  rintro e w' ⟨rfl, rfl⟩
  go_wp2
  go_ret
  exact ⟨rfl, rfl⟩
 ·have hb : ((m : Int) != 0) = true := by rw [bne_iff_ne]; omega
  rw [show decide (m ≠ 0) = true from decide_eq_true h0]
  clear h0
  go_enter Tryz.func25, Tryz.ntmps25
  go_wp2_with (fail)
  refine HM.out.mono ?_
  rintro e w' ⟨rfl, rfl⟩
  go_wp2
  go_ret
  exact ⟨rfl, rfl⟩
theorem stgheld_nil (w : World) : Calls Tryz.prog 54 #[.pointer none] w fun e w' => e = .returned (.int .i64 0) ∧ w = w' := by
 go_enter Tryz.func54, Tryz.ntmps54
 go_wp2
 go_ret
 exact ⟨rfl, rfl⟩
def sizeH : Option Stg → Nat
 | none => 0
 | some s => s.size
theorem stgheld_opt {o : Option Stg} {v : Value} {h : Own.Heap} {w : World} (hi : HoldIs o v h) (hw : Own.Has w h) :
  Calls Tryz.prog 54 #[v] w fun e w' => e = .returned (.int .i64 (sizeH o : Int)) ∧ w = w' := by
 cases o with
 | none =>
  obtain ⟨rfl, rfl⟩ := hi
  exact stgheld_nil w
 | some s =>
  obtain ⟨b, rfl, i⟩ := hi
  exact stgheld_any i hw
def Drew (w u : World) : Prop := ∃ m, u = w.drewN m
theorem Drew.refl (w : World) : Drew w w := ⟨0, rfl⟩
theorem Drew.drewN {w u : World} (h : Drew w u) (n : Nat) : Drew w (u.drewN n) := by
 obtain ⟨m, rfl⟩ := h
 exact ⟨m + n, World.drewN_drewN ..⟩
theorem Drew.has {w u : World} {h : Own.Heap} (d : Drew w u) (hw : Own.Has w h) : Own.Has u h := by
 obtain ⟨m, rfl⟩ := d
 exact hw.drewN m
def Reader.fnH : Reader → Nat
 | .json _ => 92
 | .cbor _ => 121
 | .pack _ => 146
theorem rheld_any {r : Reader} {b n : Nat} {h : Own.Heap} {w : World} (hi : r.Is b h) (hw : Own.Has w h) (hf : r.Fits n) :
  Calls Tryz.prog r.fnH #[.pointer (some ⟨b, 0, none⟩)] w fun e w' => e = .returned (.int .i64 (r.held : Int)) ∧ ∃ m, w' = w.drewN m := by
 cases r with
 | json p => exact jheldq_any (p := p) hi hw hf
 | cbor p => exact cinheldq_any (p := p) hi hw (show p.Fits n from hf).c
 | pack p => exact pinheldq_any (p := p) hi hw (show p.Fits n from hf).c
set_option maxRecDepth 100000 in
set_option maxHeartbeats 8000000 in
theorem held_any {p : Pp} {b n : Nat} {h : Own.Heap} {w : World} (hi : p.Is b h) (hw : Own.Has w h) (hf : p.Fits n) (hd : p.input.depth ≤ 16) :
  Calls Tryz.prog 34 #[.pointer (some ⟨b, 0, none⟩)] w fun e w' => e = .returned (.int .i64 (p.held : Int)) ∧ ∃ m, w' = w.drewN m := by
 have HM := Lib.hid (may_any hi hw)
 by_cases hm : p.may = 0
 ·have HP := Lib.hid (show p.held = p.input.held + sizeH p.hold by unfold Pp.held; rw [if_neg (by simp [hm])]; cases p.hold <;> rfl)
  have hR := Nat.le_trans hf.input.held (Nat.add_le_add_left hd 200)
  have hZ : sizeH p.hold ≤ 2000 := by
   cases hh : p.hold with
   | none => exact Nat.zero_le _
   | some s => exact Nat.le_trans (hf.hold s hh).size (hf.hold s hh).limit
  rw [hm] at HM
  obtain ⟨rb, wb, hv, hr, hw0, hh, rfl, iR, iW, iH⟩ := hi
  have hL : ∀ u, Drew w u → Calls Tryz.prog p.input.fnH #[.pointer (some ⟨rb, 0, none⟩)] u fun e u' => e = .returned (.int .i64 (p.input.held : Int)) ∧ Drew w u' := by
   intro u t
   refine (rheld_any iR ((t.has hw).right (a := [_])).left hf.input).mono ?_
   rintro e u' ⟨he, m, rfl⟩
   exact ⟨he, t.drewN m⟩
  have HL := Lib.hid hL
  have HS := Lib.hid (fun (u : World) (t : Drew w u) => stgheld_opt iH (((t.has hw).right (a := [_])).right).right)
  have HT0 := Lib.hid (Drew.refl w)
  have HC := Lib.hid (fun (u : World) (t : Drew w u) => (t.has hw).cell b _ _ (List.mem_cons_self ..) 2 _ rfl)
  have c0 := hw.cell b _ _ (List.mem_cons_self ..) 0 _ rfl
  have c2 := hw.cell b _ _ (List.mem_cons_self ..) 2 _ rfl
  obtain ⟨R, hRe⟩ : ∃ R, R = p.input.held := ⟨_, rfl⟩
  obtain ⟨Z, hZe⟩ : ∃ Z, Z = sizeH p.hold := ⟨_, rfl⟩
  rw [← hRe] at hR HP HL
  rw [← hZe] at hZ HP HS
  have hwrap : IntKind.i64.wrap ((R : Int) + (Z : Int)) = ((R + Z : Nat) : Int) := by rw [IntKind.wrap_i64]; omega
  have HWr := Lib.hid hwrap
  generalize p.held = PH at HP ⊢
  obtain ⟨pi, po, ph, pv, pe⟩ := p
  simp only at c0 c2
  clear hw hf hm hd iR iW iH hL hRe hZe hR hZ hwrap
  cases pi
  case json pj =>
   have hTA := readerJ
   simp only [Reader.ty] at c0
   simp only [Reader.fnH] at HL
   go_enter Tryz.func34, Tryz.ntmps34
   go_wp2_with (fail)
   refine HM.out.mono ?_
   rintro e w1 ⟨rfl, rfl⟩
   go_wp2_with (fail)
   go_region_with (first
    | (go_at_call 92; refine (HL.out _ (by first | exact HT0.out | exact HT0.out.drewN _)).mono ?_; rintro e W ⟨rfl, t⟩; have c2' := HC.out _ t)
    | (go_at_call 54; refine (HS.out _ (by first | exact HT0.out | exact HT0.out.drewN _ | assumption | exact Drew.drewN (by assumption) _)).mono ?_; rintro e W ⟨rfl, rfl⟩))
   all_goals
    go_wp2
    go_ret
    exact ⟨by rw [HP.out]; exact congrArg (fun z => Ending.returned (.int .i64 z)) HWr.out, by first | assumption | exact Drew.drewN (by assumption) _⟩
  case cbor pj =>
   have hTA := readerC
   simp only [Reader.ty] at c0
   simp only [Reader.fnH] at HL
   go_enter Tryz.func34, Tryz.ntmps34
   go_wp2_with (fail)
   refine HM.out.mono ?_
   rintro e w1 ⟨rfl, rfl⟩
   go_wp2_with (fail)
   go_region_with (first
    | (go_at_call 121; refine (HL.out _ (by first | exact HT0.out | exact HT0.out.drewN _)).mono ?_; rintro e W ⟨rfl, t⟩; have c2' := HC.out _ t)
    | (go_at_call 54; refine (HS.out _ (by first | exact HT0.out | exact HT0.out.drewN _ | assumption | exact Drew.drewN (by assumption) _)).mono ?_; rintro e W ⟨rfl, rfl⟩))
   all_goals
    go_wp2
    go_ret
    exact ⟨by rw [HP.out]; exact congrArg (fun z => Ending.returned (.int .i64 z)) HWr.out, by first | assumption | exact Drew.drewN (by assumption) _⟩
  case pack pj =>
   have hTA := readerP
   simp only [Reader.ty] at c0
   simp only [Reader.fnH] at HL
   go_enter Tryz.func34, Tryz.ntmps34
   go_wp2_with (fail)
   refine HM.out.mono ?_
   rintro e w1 ⟨rfl, rfl⟩
   go_wp2_with (fail)
   go_region_with (first
    | (go_at_call 146; refine (HL.out _ (by first | exact HT0.out | exact HT0.out.drewN _)).mono ?_; rintro e W ⟨rfl, t⟩; have c2' := HC.out _ t)
    | (go_at_call 54; refine (HS.out _ (by first | exact HT0.out | exact HT0.out.drewN _ | assumption | exact Drew.drewN (by assumption) _)).mono ?_; rintro e W ⟨rfl, rfl⟩))
   all_goals
    go_wp2
    go_ret
    exact ⟨by rw [HP.out]; exact congrArg (fun z => Ending.returned (.int .i64 z)) HWr.out, by first | assumption | exact Drew.drewN (by assumption) _⟩
 ·have HP := Lib.hid (show p.held = 0 by unfold Pp.held; rw [if_pos hm])
  have hmb : ((p.may : Int) != 0) = true := by rw [bne_iff_ne]; omega
  generalize p.held = PH at HP ⊢
  generalize p.may = m at HM hmb
  clear hi hw hf hm hd
  go_enter Tryz.func34, Tryz.ntmps34
  go_wp2_with (fail)
  refine HM.out.mono ?_
  rintro e w1 ⟨rfl, rfl⟩
  go_wp2
  go_ret
  exact ⟨by rw [HP.out]; rfl, 0, rfl⟩
end Pip
end Go.Proofs.YthnbpnfaghjamaaGreat
