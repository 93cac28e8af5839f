/- Texts of the walk, joined. -/
import Derived.Test.YthnbpnfaghjamaaGreatK07
import Derived.Test.YthnbpnfaghjamaaGreatK24
import Derived.Test.YthnbpnfaghjamaaGreatK26
import Derived.Test.YthnbpnfaghjamaaGreatK30
import Derived.Test.YthnbpnfaghjamaaGreatK31
import Derived.Test.YthnbpnfaghjamaaGreatK35
import Derived.Test.YthnbpnfaghjamaaGreatK38
/- The pipe where MessagePack is written; the law's first call. -/
namespace Go.Proofs.YthnbpnfaghjamaaGreat
open Go.RowKit
open Json (Part Wr)
namespace Pip
theorem wrote_pack (text : Part → List UInt8) : Wrote 3 300 (fun _ => True) text 0 (fun _ => True) where
 wok := wok_pack text
 write hi hf hn hk he l hl hfine hs hw _ _ _ := write_pack text hi hf hn hk he l hl (fun v hv => (hfine v hv).1) hs hw
theorem batch_pack (s : Setup) (hr : right s = true) (hf1 : s.from_ = 1) (hk : s.to = 3) (b : ByteArray) (hb : b.size ≤ 1000) (text : Part → List UInt8) (w : World) :
  Calls Tryz.prog 21 #[s.val, .string b] w fun e w' => e = .returned (.tuple #[.string ⟨(batch text s b.data.toList).1.toArray⟩, .int .i64 ((batch text s b.data.toList).2 : Int)]) ∧ Below w.heap.size w w' :=
 batch_any (wrote_pack text) s hr (by rw [hk]; rfl) b (fun _ => reads_json) (by unfold Pp.new Reader.new; simp only [hf1]; rfl) hb ⟨fun _ _ _ _ _ => trivial, fun _ _ _ => trivial⟩ w (Nat.zero_le _) trivial
def s18 : Setup := ⟨1, 3, 2, 9, 0⟩
set_option maxRecDepth 100000 in
set_option maxHeartbeats 4000000 in
theorem alive18_any (w : World) : Calls Tryz.prog 18 #[] w fun r w' => r = .returned (.bool true) ∧ Below w.heap.size w w' := by
 have HBat := Lib.hid (fun u => batch_pack s18 (by decide) rfl rfl ⟨#[91, 49, 93]⟩ (by decide) (fun _ => []) u)
 rw [show batch (fun _ => []) s18 (⟨#[91, 49, 93]⟩ : ByteArray).data.toList = ([145, 1], 0) from alive_pack _] at HBat
 have HR1 := Lib.hid (fun u => right_any ⟨1, 1, 1, 0, 0⟩ u)
 have HR2 := Lib.hid (fun u => right_any ⟨0, 0, 0, 0, 0⟩ u)
 rw [show right ⟨1, 1, 1, 0, 0⟩ = true from by decide] at HR1
 rw [show right ⟨0, 0, 0, 0, 0⟩ = false from by decide] at HR2
 have BT := Lib.hid (fun (u v : World) (b : Below w.heap.size w u) (b2 : Below u.heap.size u v) => (b.trans (b2.mono b.size) : Below w.heap.size w v))
 unfold Setup.val s18 at HBat
 unfold Setup.val at HR1 HR2
 simp only at HBat HR1 HR2
 go_enter Tryz.func18, Tryz.ntmps18
 go_wp2_with (fail)
 refine (HBat.out _).mono ?_
 rintro r w1 ⟨rfl, b1⟩
 have HB1 := Lib.hid b1
 clear b1
 go_wp2_with (fail)
 refine (HR1.out _).mono ?_
 rintro r w2 ⟨rfl, b2⟩
 have HB2 := Lib.hid (BT.out _ _ HB1.out b2)
 clear b2
 go_wp2_with (fail)
 refine (HR2.out _).mono ?_
 rintro r w3 ⟨rfl, b3⟩
 have HB3 := Lib.hid (BT.out _ _ HB2.out b3)
 clear b3
 go_wp2
 go_ret
 exact ⟨rfl, HB3.out⟩
theorem reads_cbor : Reads 2 where
 step r hk b n h w hi hw hf hn x := by
  cases r with
  | json p => cases hk
  | cbor p => exact cinstep_any (p := p) hi hw hf hn x
  | pack p => cases hk
theorem reads_pack : Reads 3 where
 step r hk b n h w hi hw hf hn x := by
  cases r with
  | json p => cases hk
  | cbor p => cases hk
  | pack p => exact pinstep_any (p := p) hi hw hf hn x
end Pip
end Go.Proofs.YthnbpnfaghjamaaGreat

/- The pipe where JSON is written; a pipe of any kind. -/
namespace Go.Proofs.YthnbpnfaghjamaaGreat
open Go.RowKit
open Json (Part Wr Txt)
namespace Pip
section
variable {ok : Part → Prop} {text : Part → List UInt8} {B : Nat} {Tb : World → Prop}
theorem wok_json (TX : Txt ok text B Tb) : Wok 1 6012 ok text B Tb where
 step W hk wb n h w hi hw hf hn hB hT p _ hp := by
  cases W with
  | json W => exact Json.step_any (W := W) hi hw ⟨hf.1, hf.2⟩ hn TX hB hT p hp
  | cbor W => cases hk
  | pack W => cases hk
 len W hk p _ hp := by
  cases W with
  | json W => exact Nat.le_succ_of_le (Json.Wr.step_len TX W p hp)
  | cbor W => cases hk
  | pack W => cases hk
 of := TX.of
 stage h := by cases h
 room := by decide
theorem wrote_json (TX : Txt ok text B Tb) : Wrote 1 6012 ok text B Tb where
 wok := wok_json TX
 write hi hf hn hk he l hl hfine hs hw hB hBw hT := write_json (wok_json TX) hi hf hn hk he l hl hfine hs hw hB hBw hT
theorem reads_kind (r : Reader) : Reads r.kind := by
 cases r with
 | json p => exact reads_json
 | cbor p => exact reads_cbor
 | pack p => exact reads_pack
theorem batch_with (TX : Txt ok text B Tb) (s : Setup) (hr : right s = true) (b : ByteArray) (hb : b.size ≤ 1000) (told : (Writer.new s.to).kind = 1 → (Pp.new s).Told ok text b.data.toList) (w : World) (hBw : B ≤ w.heap.size) (hT : Tb w) :
  Calls Tryz.prog 21 #[s.val, .string b] w fun e w' => e = .returned (.tuple #[.string ⟨(batch text s b.data.toList).1.toArray⟩, .int .i64 ((batch text s b.data.toList).2 : Int)]) ∧ Below w.heap.size w w' := by
 cases hX : Writer.new s.to with
 | json W => exact batch_any (wrote_json TX) s hr (by rw [hX]; rfl) b (fun _ => reads_kind _) rfl hb (told (by rw [hX]; rfl)) w hBw hT
 | cbor W => exact batch_any (wrote_cbor text) s hr (by rw [hX]; rfl) b (fun _ => reads_kind _) rfl hb ⟨fun _ _ _ _ _ => trivial, fun _ _ _ => trivial⟩ w (Nat.zero_le _) trivial
 | pack W => exact batch_any (wrote_pack text) s hr (by rw [hX]; rfl) b (fun _ => reads_kind _) rfl hb ⟨fun _ _ _ _ _ => trivial, fun _ _ _ => trivial⟩ w (Nat.zero_le _) trivial
end
theorem plainJ_begin (m : Bool) (c : Int) (w : World) :
  Calls Tryz.prog 159 #[(Part.begins m c).val] w fun e w' => e = .returned (.string ⟨([110, 117, 108, 108] : List UInt8).toArray⟩) ∧ Below w.heap.size w w' := by
 have a1 := Json.asBool (.begins m c)
 have a2 := Json.asWhole (.begins m c)
 have a3 := Json.asWord (.begins m c)
 have a4 := Json.asBlob (.begins m c)
 have B0 := Lib.hid (fun o => (Below.refl w.heap.size w).alloc (Nat.le_refl _) o)
 obtain ⟨V, hV⟩ : ∃ V, V = (Part.begins m c).val := ⟨_, rfl⟩
 rw [← hV] at a1 a2 a3 a4 ⊢
 rw [show (Part.begins m c).isBool = false from rfl, show (Part.begins m c).inBool = .bool false from rfl] at a1
 rw [show (Part.begins m c).isWhole = false from rfl, show (Part.begins m c).inWhole = .agg #[.bool false, .int .u64 0] from rfl] at a2
 rw [show (Part.begins m c).isWord = false from rfl, show (Part.begins m c).inWord = .string ⟨#[]⟩ from rfl] at a3
 rw [show (Part.begins m c).isBlob = false from rfl, show (Part.begins m c).inBlob = .string ⟨#[]⟩ from rfl] at a4
 clear hV
 go_enter Tryz.func159, Tryz.ntmps159
 go_wp2
 go_ret
 exact ⟨rfl, B0.out _⟩
def textN : Part → List UInt8 := fun _ => [110, 117, 108, 108]
def Pp.toldR (ok : Part → Bool) (text : Part → List UInt8) : Pp → List UInt8 → Bool
 | p, [] => p.may != 0 || p.input.fin.2.1.all ok
 | p, x :: b => (p.may != 0 || (p.input.step x).2.1.all ok) && (p.step text x).1.toldR ok text b
end Pip
end Go.Proofs.YthnbpnfaghjamaaGreat

/- Containers in one another: what a pipe answers, in plain Lean (PipeDeep). -/
namespace Go.Proofs.YthnbpnfaghjamaaGreat
open Go.RowKit
open Json (Part Wr)
namespace Pip
def oneOf (f : Nat) : UInt8 := if f = 1 then 91 else if f = 2 then 129 else 145
def deepOk (f t d n : Nat) : Bool :=
 ((batch textN ⟨f, t, d, 100, 0⟩ (List.replicate n (oneOf f))).2 == if n > d then 4 else 3) && (t != 1 || (Pp.new ⟨f, t, d, 100, 0⟩).toldR Part.isBegin textN (List.replicate n (oneOf f)))
def deepAll (f t : Nat) : Bool := (List.range 16).all fun d => (List.range 20).all fun n => deepOk f t (d + 1) (n + 1)
def rep (c : UInt8) (n : Nat) : ByteArray := ⟨(List.replicate n c).toArray⟩
end Pip
end Go.Proofs.YthnbpnfaghjamaaGreat

/- JSON's texts of numbers of one digit, whatever the tables hold. -/
namespace Go.Proofs.YthnbpnfaghjamaaGreat
open Go.RowKit Go.Sort Go.Shelf
open Json (Part Wr Txt)
namespace Pip
theorem plainJ_close (w : World) :
  Calls Tryz.prog 159 #[Part.close.val] w fun e w' => e = .returned (.string ⟨([110, 117, 108, 108] : List UInt8).toArray⟩) ∧ Below w.heap.size w w' := by
 have a1 := Json.asBool .close
 have a2 := Json.asWhole .close
 have a3 := Json.asWord .close
 have a4 := Json.asBlob .close
 have B0 := Lib.hid (fun o => (Below.refl w.heap.size w).alloc (Nat.le_refl _) o)
 obtain ⟨V, hV⟩ : ∃ V, V = Part.close.val := ⟨_, rfl⟩
 rw [← hV] at a1 a2 a3 a4 ⊢
 rw [show Part.close.isBool = false from rfl, show Part.close.inBool = .bool false from rfl] at a1
 rw [show Part.close.isWhole = false from rfl, show Part.close.inWhole = .agg #[.bool false, .int .u64 0] from rfl] at a2
 rw [show Part.close.isWord = false from rfl, show Part.close.inWord = .string ⟨#[]⟩ from rfl] at a3
 rw [show Part.close.isBlob = false from rfl, show Part.close.inBlob = .string ⟨#[]⟩ from rfl] at a4
 clear hV
 go_enter Tryz.func159, Tryz.ntmps159
 go_wp2
 go_ret
 exact ⟨rfl, B0.out _⟩
def fewB : Part → Bool
 | .begins _ _ => true
 | .close => true
 | .whole false m => decide (m < 10)
 | _ => false
def textF : Part → List UInt8
 | .whole false m => [UInt8.ofNat (48 + m)]
 | _ => [110, 117, 108, 108]
end Pip
end Go.Proofs.YthnbpnfaghjamaaGreat
