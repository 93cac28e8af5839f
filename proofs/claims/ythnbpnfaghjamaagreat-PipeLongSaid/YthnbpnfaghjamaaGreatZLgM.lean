/- Texts of the walk, joined. -/
import Derived.Test.YthnbpnfaghjamaaGreatZXtra
import Derived.Test.YthnbpnfaghjamaaGreatK04
/- A document of one text of zero bytes, in plain Lean: what a pipe answers (PipeLong). No program in sight. -/
namespace Go.Proofs.YthnbpnfaghjamaaGreat
namespace Pip
open Json (Part Wr)
def zs (n : Nat) : List UInt8 := List.replicate n 0
theorem zs_succ (n : Nat) : zs (n + 1) = zs n ++ [0] := List.replicate_succ'
theorem zs_length (n : Nat) : (zs n).length = n := List.length_replicate
theorem batch_err (text : Part → List UInt8) (f t : Int) (d : Nat) (hr : right ⟨f, t, d, 0, 0⟩ = true) (l m : List UInt8) (x : UInt8) (r r' : Reader) (e : Nat) (he : e ≠ 0)
  (hq : (Reader.new f d).Quiet l r) (hl : r.step x = (r', [], e)) : batch text ⟨f, t, d, 0, 0⟩ (l ++ x :: m) = ([], e) := by
 have hrun := Pp.run_quiet text l (Reader.new f d) r (Writer.new t) (if t = 3 then some (Stg.new 0) else none) (x :: m) hq
 have hs : (Pp.mk r (Writer.new t) (if t = 3 then some (Stg.new 0) else none) false 0).step text x = (Pp.mk r' (Writer.new t) (if t = 3 then some (Stg.new 0) else none) false e, [], e) := by
  unfold Pp.step
  rw [if_neg (by simp [Pp.may])]
  show (Pp.mk (r.step x).1 _ _ false 0).write text (r.step x).2.1 (r.step x).2.2 = _
  rw [hl]
  rfl
 have hall : (Pp.new ⟨f, t, d, 0, 0⟩).run text (l ++ x :: m) = (Pp.mk r' (Writer.new t) (if t = 3 then some (Stg.new 0) else none) false e, [], e) := by
  show (Pp.mk (Reader.new f d) (Writer.new t) (if t = 3 then some (Stg.new 0) else none) false 0).run text (l ++ x :: m) = _
  rw [hrun, Pp.run, hs, if_pos (by simpa using he)]
 unfold batch
 rw [if_neg (by simp [hr])]
 dsimp only
 rw [hall, if_pos (by simpa using he)]
def chk1 : Esc.Chk := ⟨0, 128, 191, false⟩
def wordC (n : Nat) (acc : List UInt8) (c : Esc.Chk) : Core := ⟨1, [], false, 0, true, false, n, acc, c⟩
def wordD (c : Esc.Chk) : Core := ⟨1, [], true, 0, true, false, 0, [], c⟩
theorem word_more (k : Nat) (acc : List UInt8) (c : Esc.Chk) (hc : c.step 0 = (chk1, true)) : (wordC (k + 2) acc c).byte 0 = (wordC (k + 1) (acc ++ [0]) chk1, []) := by
 unfold Core.byte
 rw [if_neg (by simp [wordC, hc]), if_pos (by simp [wordC])]
 show (Core.mk 1 [] false 0 true false (k + 2 - 1) (acc ++ [0]) (c.step 0).1, []) = _
 rw [hc]
 rfl
theorem word_last (acc : List UInt8) (c : Esc.Chk) (hc : c.step 0 = (chk1, true)) : (wordC 1 acc c).byte 0 = (wordD chk1, [.word ⟨(acc ++ [0]).toArray⟩]) := by
 have hk : (wordC 1 acc c).chk 0 = chk1 := by
  show (c.step 0).1 = _
  rw [hc]
 unfold Core.byte
 rw [hk, if_neg (by simp [wordC, hc, Esc.Chk.whole, chk1]), if_neg (by simp [wordC])]
 show (Core.mk 1 [] false 0 true false 0 (acc ++ [0]) ((wordC 1 acc c).chk 0)).text = _
 rw [hk]
 rfl
theorem cin_byte' (c : Core) (h0 : 0 < c.lack) (he : c.e = 0) (b : UInt8) (d : Core) (l : List Part) (h : c.byte b = (d, l)) : (cinB c).step b = (cinB d, l, d.e) := by
 show (Reader.cbor (Cin.step _ b).1, (Cin.step _ b).2) = _
 unfold Cin.step
 rw [if_neg (by simp [he])]
 have ha : (Cin.mk c Hd.new false).act b = (Cin.mk d Hd.new false, l) := by
  unfold Cin.act
  rw [if_pos h0]
  show Cin.on _ (c.byte b) = _
  rw [h]
  rfl
 rw [ha]
 rfl
theorem pin_byte' (a v : Nat) (c : Core) (h0 : 0 < c.lack) (he : c.e = 0) (b : UInt8) (d : Core) (l : List Part) (h : c.byte b = (d, l)) : (pinB c a v).step b = (pinB d a v, l, d.e) := by
 show (Reader.pack (Pin.step _ b).1, (Pin.step _ b).2) = _
 unfold Pin.step
 rw [if_neg (by simp [he])]
 have ha : (Pin.mk c 0 0 a v).act b = (Pin.mk d 0 0 a v, l) := by
  unfold Pin.act
  rw [if_pos h0]
  show Pin.on _ (c.byte b) = _
  rw [h]
  rfl
 rw [ha]
 rfl
theorem chk_zero1 : Chk_zero.step 0 = (chk1, true) := rfl
theorem chk_one1 : chk1.step 0 = (chk1, true) := rfl
theorem cin_zeros : ∀ (k : Nat) (acc : List UInt8) (c : Esc.Chk), c.step 0 = (chk1, true) → ∃ c', c'.step 0 = (chk1, true) ∧ (cinB (wordC (k + 1) acc c)).Quiet (zs k) (cinB (wordC 1 (acc ++ zs k) c'))
 | 0, acc, c, hc => ⟨c, hc, by rw [show zs 0 = [] from rfl, List.append_nil]; rfl⟩
 | k + 1, acc, c, hc => by
  obtain ⟨c', h1, h2⟩ := cin_zeros k (acc ++ [0]) chk1 chk_one1
  refine ⟨c', h1, cinB (wordC (k + 1) (acc ++ [0]) chk1), cin_byte' _ (by simp [wordC]) rfl 0 _ _ (word_more k acc c hc), ?_⟩
  rwa [List.append_assoc] at h2
theorem pin_zeros (a v : Nat) : ∀ (k : Nat) (acc : List UInt8) (c : Esc.Chk), c.step 0 = (chk1, true) → ∃ c', c'.step 0 = (chk1, true) ∧ (pinB (wordC (k + 1) acc c) a v).Quiet (zs k) (pinB (wordC 1 (acc ++ zs k) c') a v)
 | 0, acc, c, hc => ⟨c, hc, by rw [show zs 0 = [] from rfl, List.append_nil]; rfl⟩
 | k + 1, acc, c, hc => by
  obtain ⟨c', h1, h2⟩ := pin_zeros a v k (acc ++ [0]) chk1 chk_one1
  refine ⟨c', h1, pinB (wordC (k + 1) (acc ++ [0]) chk1) a v, pin_byte' a v _ (by simp [wordC]) rfl 0 _ _ (word_more k acc c hc), ?_⟩
  rwa [List.append_assoc] at h2
theorem len_some (n : Nat) (h0 : 0 < n) (h : n ≤ 200) : (Core.new 1).length true n = (wordC n [] Chk_zero, []) := by
 unfold Core.length
 rw [if_neg (by simp [Core.new]; omega)]
 dsimp only
 rw [if_pos (.inl h0)]
 rfl
theorem len_large (n : Nat) (h : 200 < n) : (Core.new 1).length true n = (Core.new 1).fail 5 := by
 unfold Core.length
 rw [if_pos (by simp [Core.new]; omega)]
theorem cin_few (n : Nat) (h : n < 24) : (Reader.new 2 1).step (UInt8.ofNat (96 + n)) = (cinB ((Core.new 1).length true n).1, ((Core.new 1).length true n).2, ((Core.new 1).length true n).1.e) := by
 have hb := byteN (96 + n) (by omega)
 have h1 : (96 + n) / 32 = 3 := by omega
 have h2 : (96 + n) % 32 = n := by omega
 have h3 : UInt8.ofNat (96 + n) ≠ 255 := fun e => by
  have := congrArg UInt8.toNat e
  rw [hb] at this
  have : (255 : UInt8).toNat = 255 := rfl
  omega
 show (Reader.cbor ((Cin.new 1).step _).1, ((Cin.new 1).step _).2) = _
 have ha : (Cin.new 1).act (UInt8.ofNat (96 + n)) = (Cin.mk ((Core.new 1).length true n).1 Hd.new false, ((Core.new 1).length true n).2) := by
  unfold Cin.act
  rw [if_neg (by decide), if_neg (by decide), if_neg (by decide)]
  unfold Cin.item
  simp only [hb, h1, h2]
  rw [if_neg (by decide), if_neg (by omega), if_neg h3, if_neg (by simp [Cin.new, Core.new, Core.atKey]), if_neg (by decide), if_neg (by simp)]
  unfold Cin.head
  have hs : Hd.step (Cin.new 1).h (UInt8.ofNat (96 + n)) = (⟨true, true, false, 3, 0, n, 0⟩, true, 0) := by
   unfold Hd.step
   rw [if_neg (by decide), if_neg (by decide), if_neg (by decide), hb, h1, h2, if_pos h]
   rfl
  simp only [hs]
  rw [if_neg (by decide), if_neg (by decide)]
  unfold Cin.behind
  rw [if_neg (by decide), if_pos (by decide), if_neg (by decide)]
  rfl
 unfold Cin.step
 rw [if_neg (by decide), ha]
 rfl
def cinH (v : Nat) : Reader := .cbor ⟨Core.new 1, ⟨true, false, false, 3, 1, v, 0⟩, true⟩
theorem cin_end (v n : Nat) (h : n < 256) : (cinH v).step (UInt8.ofNat n) = (cinB ((Core.new 1).length true ((v * 256 + n) % 18446744073709551616)).1, ((Core.new 1).length true ((v * 256 + n) % 18446744073709551616)).2, ((Core.new 1).length true ((v * 256 + n) % 18446744073709551616)).1.e) := by
 have hb := byteN n h
 show (Reader.cbor (Cin.step _ _).1, (Cin.step _ _).2) = _
 have ha : (Cin.mk (Core.new 1) ⟨true, false, false, 3, 1, v, 0⟩ true).act (UInt8.ofNat n) = (Cin.mk ((Core.new 1).length true ((v * 256 + n) % 18446744073709551616)).1 Hd.new false, ((Core.new 1).length true ((v * 256 + n) % 18446744073709551616)).2) := by
  unfold Cin.act
  rw [if_neg (by simp [Core.new]), if_pos rfl]
  unfold Cin.head
  have hs : Hd.step ⟨true, false, false, 3, 1, v, 0⟩ (UInt8.ofNat n) = (⟨true, true, false, 3, 0, (v * 256 + n) % 18446744073709551616, 0⟩, true, 0) := by
   unfold Hd.step
   rw [if_neg (by simp), if_neg (by simp), if_pos rfl, hb]
   rfl
  simp only [hs]
  rw [if_neg (by decide), if_neg (by decide)]
  unfold Cin.behind
  rw [if_neg (by decide), if_pos (by decide), if_neg (by decide)]
  rfl
 unfold Cin.step
 rw [if_neg (by simp [Core.new]), ha]
 rfl
theorem cin_first2 (a : Nat) (h : a < 256) : (Reader.new 2 1).Quiet [121, UInt8.ofNat a] (cinH a) := by
 refine ⟨.cbor ⟨Core.new 1, ⟨true, false, false, 3, 2, 0, 0⟩, true⟩, rfl, cinH a, ?_, rfl⟩
 have hb := byteN a h
 show (Reader.cbor (Cin.step _ _).1, (Cin.step _ _).2) = _
 have ha : (Cin.mk (Core.new 1) ⟨true, false, false, 3, 2, 0, 0⟩ true).act (UInt8.ofNat a) = (Cin.mk (Core.new 1) ⟨true, false, false, 3, 1, a, 0⟩ true, []) := by
  unfold Cin.act
  rw [if_neg (by simp [Core.new]), if_pos rfl]
  unfold Cin.head
  have hs : Hd.step ⟨true, false, false, 3, 2, 0, 0⟩ (UInt8.ofNat a) = (⟨true, false, false, 3, 1, a, 0⟩, false, 0) := by
   unfold Hd.step
   rw [if_neg (by simp), if_neg (by simp), if_pos rfl, hb]
   show (Hd.mk true (decide (2 = 1)) false 3 1 ((0 * 256 + a) % 18446744073709551616) 0, decide (2 = 1), 0) = _
   rw [show (0 * 256 + a) % 18446744073709551616 = a by omega]
   rfl
  simp only [hs]
  rw [if_neg (by decide), if_pos trivial]
  rfl
 unfold Cin.step
 rw [if_neg (by simp [Core.new]), ha]
 rfl
def pinH (a v : Nat) : Reader := .pack ⟨Core.new 1, 4, 1, a, v⟩
theorem pin_end (a v n : Nat) (h : n < 256) : (pinH a v).step (UInt8.ofNat n) = (pinB ((Core.new 1).length true ((v * 256 + n) % 18446744073709551616)).1 a ((v * 256 + n) % 18446744073709551616), ((Core.new 1).length true ((v * 256 + n) % 18446744073709551616)).2, ((Core.new 1).length true ((v * 256 + n) % 18446744073709551616)).1.e) := by
 have hb := byteN n h
 show (Reader.pack (Pin.step _ _).1, (Pin.step _ _).2) = _
 have ha : (Pin.mk (Core.new 1) 4 1 a v).act (UInt8.ofNat n) = (Pin.mk ((Core.new 1).length true ((v * 256 + n) % 18446744073709551616)).1 0 0 a ((v * 256 + n) % 18446744073709551616), ((Core.new 1).length true ((v * 256 + n) % 18446744073709551616)).2) := by
  unfold Pin.act
  rw [if_neg (by simp [Core.new]), if_pos (by simp)]
  unfold Pin.number
  simp only [hb]
  rw [if_neg (by decide)]
  unfold Pin.behind
  rw [if_neg (by decide), if_neg (by decide), if_pos (by decide)]
  rfl
 unfold Pin.step
 rw [if_neg (by simp [Core.new]), ha]
 rfl
theorem pin_first2 (a : Nat) (h : a < 256) : (Reader.new 3 1).Quiet [218, UInt8.ofNat a] (pinH 2 a) := by
 refine ⟨.pack ⟨Core.new 1, 4, 2, 2, 0⟩, rfl, pinH 2 a, ?_, rfl⟩
 have hb := byteN a h
 show (Reader.pack (Pin.step _ _).1, (Pin.step _ _).2) = _
 have ha : (Pin.mk (Core.new 1) 4 2 2 0).act (UInt8.ofNat a) = (Pin.mk (Core.new 1) 4 1 2 a, []) := by
  unfold Pin.act
  rw [if_neg (by simp [Core.new]), if_pos (by simp)]
  unfold Pin.number
  simp only [hb]
  rw [if_pos (by decide), show (0 * 256 + a) % 18446744073709551616 = a by omega]
 unfold Pin.step
 rw [if_neg (by simp [Core.new]), ha]
 rfl
theorem pin_few (n : Nat) (h : n < 32) : (Reader.new 3 1).step (UInt8.ofNat (160 + n)) = (pinB ((Core.new 1).length true n).1 0 0, ((Core.new 1).length true n).2, ((Core.new 1).length true n).1.e) := by
 have hb := byteN (160 + n) (by omega)
 show (Reader.pack ((Pin.new 1).step _).1, ((Pin.new 1).step _).2) = _
 have ha : (Pin.new 1).act (UInt8.ofNat (160 + n)) = (Pin.mk ((Core.new 1).length true n).1 0 0 0 0, ((Core.new 1).length true n).2) := by
  unfold Pin.act
  rw [if_neg (by decide), if_neg (by decide)]
  unfold Pin.item
  simp only [hb]
  rw [if_neg (by simp [Pin.new, Core.new]; omega), if_neg (by simp [Pin.new, Core.new, Core.atKey]), if_neg (by omega), if_neg (by omega), if_neg (by simp [Pin.new, Core.new, Core.full]), if_neg (by omega), if_neg (by omega), if_neg (by omega), if_pos (by omega), show (160 + n) % 32 = n by omega]
  rfl
 unfold Pin.step
 rw [if_neg (by decide), ha]
 rfl
end Pip
end Go.Proofs.YthnbpnfaghjamaaGreat

/- Texts of zero bytes: the insides of JSON's strings, and the documents, in plain Lean (PipeLong). No program in sight. -/
namespace Go.Proofs.YthnbpnfaghjamaaGreat
namespace Pip
open Json (Part Wr)
def esc0 : List UInt8 := [92, 117, 48, 48, 48, 48]
def escs : Nat → List UInt8
 | 0 => []
 | n + 1 => escs n ++ esc0
theorem escs_length (n : Nat) : (escs n).length = 6 * n := by
 induction n with
 | zero => rfl
 | succ n ih => rw [escs, List.length_append, ih]; show 6 * n + 6 = _; omega
def rd1 : Esc.Rdr := ⟨chk1, 0, 0, 4, 0, 0⟩
def jinS (r : Esc.Rdr) (s : List UInt8) : Reader := .json ⟨⟨1, r, s, Num.new, [], 0, 0⟩, 1, [], 0, 0⟩
theorem jin_in (r m : Esc.Rdr) (s o : List UInt8) (b : UInt8) (h : r.step b = (m, o, 0)) (hb : b ≠ 34) (hs : (s ++ o).length ≤ 200) : (jinS r s).step b = (jinS m (s ++ o), [], 0) := by
 have ha : (Lex.mk 1 r s Num.new [] 0 0).act b = (Lex.mk 1 m (s ++ o) Num.new [] 0 0, []) := by
  unfold Lex.act
  rw [if_pos rfl]
  unfold Lex.text
  rw [if_neg (fun k => hb k.1)]
  simp only [h]
  rw [if_neg (fun k => by have := k.2; omega)]
 have hl : (Lex.mk 1 r s Num.new [] 0 0).step b = (Lex.mk 1 m (s ++ o) Num.new [] 0 0, [], 0) := by
  unfold Lex.step
  rw [if_neg (by simp), ha, if_neg (by simp)]
 show (Reader.json (Jin.step _ b).1, (Jin.step _ b).2) = _
 unfold Jin.step
 rw [if_neg (by simp)]
 simp only [hl]
 rfl
theorem jin_over (r m : Esc.Rdr) (s o : List UInt8) (b : UInt8) (h : r.step b = (m, o, 0)) (hb : b ≠ 34) (hs : 200 < (s ++ o).length) : ∃ r', (jinS r s).step b = (r', [], 5) := by
 have ha : (Lex.mk 1 r s Num.new [] 0 0).act b = (Lex.mk 1 m (s ++ o) Num.new [] 0 5, []) := by
  unfold Lex.act
  rw [if_pos rfl]
  unfold Lex.text
  rw [if_neg (fun k => hb k.1)]
  simp only [h]
  rw [if_pos ⟨trivial, hs⟩]
 have hl : (Lex.mk 1 r s Num.new [] 0 0).step b = (Lex.mk 1 m (s ++ o) Num.new [] 0 5, [], 5) := by
  unfold Lex.step
  rw [if_neg (by simp), ha, if_pos (by simp)]
 refine ⟨.json ⟨Lex.mk 1 m (s ++ o) Num.new [] 0 5, 1, [], 0, 5⟩, ?_⟩
 show (Reader.json (Jin.step _ b).1, (Jin.step _ b).2) = _
 unfold Jin.step
 rw [if_neg (by simp)]
 simp only [hl]
 rfl
def Flat (r : Esc.Rdr) : Prop := r = Esc.Rdr.zero ∨ r = rd1
def rdA (c : Esc.Chk) (n : Nat) : Esc.Rdr := ⟨c, 1, 0, n, 0, 0⟩
def rdB (c : Esc.Chk) (n : Nat) : Esc.Rdr := ⟨c, 2, 0, n, 0, 0⟩
theorem flat_steps (r : Esc.Rdr) (h : Flat r) : ∃ a, r.step 92 = (a, [], 0) ∧ a.step 117 = (rdB chk1 0, [], 0) := by
 rcases h with rfl | rfl
 ·exact ⟨_, rfl, rfl⟩
 ·exact ⟨_, rfl, rfl⟩
theorem dig0 : (rdB chk1 0).step 48 = (rdB chk1 1, [], 0) := rfl
theorem dig1 : (rdB chk1 1).step 48 = (rdB chk1 2, [], 0) := rfl
theorem dig2 : (rdB chk1 2).step 48 = (rdB chk1 3, [], 0) := rfl
theorem rune_zero : Esc.rune 0 = [0] := by decide +kernel
theorem dig3 : (rdB chk1 3).step 48 = (rd1, [0], 0) := by
 unfold Esc.Rdr.step
 rw [if_neg (by decide), if_neg (by decide), if_neg (by decide), if_neg (by decide)]
 unfold Esc.Rdr.digit
 rw [if_neg (by decide)]
 dsimp only
 rw [if_neg (by decide), if_neg (by decide), if_neg (by decide), if_neg (by decide)]
 show Esc.latch (_, Esc.rune 0, 0) = _
 rw [rune_zero]
 rfl
theorem jin_five (r : Esc.Rdr) (hr : Flat r) (s : List UInt8) (hs : s.length ≤ 200) : (jinS r s).Quiet [92, 117, 48, 48, 48] (jinS (rdB chk1 3) s) := by
 obtain ⟨a, h1, h2⟩ := flat_steps r hr
 have e : s ++ [] = s := List.append_nil s
 have hz : (s ++ []).length ≤ 200 := by rw [e]; exact hs
 refine ⟨_, jin_in r a s [] 92 h1 (by decide) hz, ?_⟩
 rw [e]
 refine ⟨_, jin_in a _ s [] 117 h2 (by decide) hz, ?_⟩
 rw [e]
 refine ⟨_, jin_in _ _ s [] 48 dig0 (by decide) hz, ?_⟩
 rw [e]
 refine ⟨_, jin_in _ _ s [] 48 dig1 (by decide) hz, ?_⟩
 rw [e]
 refine ⟨_, jin_in _ _ s [] 48 dig2 (by decide) hz, ?_⟩
 rw [e]
 rfl
theorem jin_zeros : ∀ n, n ≤ 200 → ∃ r, Flat r ∧ (Reader.new 1 1).Quiet (34 :: escs n) (jinS r (zs n))
 | 0, _ => ⟨Esc.Rdr.zero, .inl rfl, _, rfl, rfl⟩
 | n + 1, h => by
  obtain ⟨r, hr, hq⟩ := jin_zeros n (by omega)
  have h5 := jin_five r hr (zs n) (by rw [zs_length]; omega)
  have h6 := jin_in (rdB chk1 3) rd1 (zs n) [0] 48 dig3 (by decide) (by rw [List.length_append, zs_length]; simp; omega)
  rw [← zs_succ] at h6
  have h7 := Reader.Quiet.append _ [48] _ _ (jinS rd1 (zs (n + 1))) h5 ⟨_, h6, rfl⟩
  exact ⟨rd1, .inr rfl, Reader.Quiet.append (34 :: escs n) esc0 _ _ _ hq h7⟩
theorem jin_quote (r : Esc.Rdr) (hr : Flat r) (s : List UInt8) : ∃ r', (jinS r s).step 34 = (r', [.word ⟨s.toArray⟩], 0) ∧ r'.fin = (r', [], 0) := by
 have hw : r.whole = true := by rcases hr with rfl | rfl <;> rfl
 have hl : (Lex.mk 1 r s Num.new [] 0 0).step 34 = (Lex.mk 0 r s Num.new [] 0 0, [⟨115, s, false, 0⟩], 0) := by
  unfold Lex.step
  rw [if_neg (by simp)]
  have ha : (Lex.mk 1 r s Num.new [] 0 0).act 34 = (Lex.mk 0 r s Num.new [] 0 0, [⟨115, s, false, 0⟩]) := by
   unfold Lex.act
   rw [if_pos rfl]
   unfold Lex.text
   rw [if_pos ⟨rfl, hw⟩]
  rw [ha, if_neg (by simp)]
 refine ⟨.json ⟨Lex.mk 0 r s Num.new [] 0 0, 1, [], 6, 0⟩, ?_, rfl⟩
 show (Reader.json (Jin.step _ 34).1, (Jin.step _ 34).2) = _
 unfold Jin.step
 rw [if_neg (by simp)]
 simp only [hl]
 rfl
def packHead (n : Nat) : List UInt8 := if n < 32 then big (160 + n) 1 else sized 217 n [1, 2, 4] 0
def longDoc (f : Int) (n : Nat) : List UInt8 := if f = 1 then 34 :: (escs n ++ [34]) else if f = 2 then put 3 n ++ zs n else packHead n ++ zs n
theorem long_json (n : Nat) (h : n ≤ 200) : ∃ (d : List UInt8) (x : UInt8) (q r' : Reader), longDoc 1 n = d ++ [x] ∧ (Reader.new 1 1).Quiet d q ∧ q.step x = (r', [.word ⟨(zs n).toArray⟩], 0) ∧ r'.fin = (r', [], 0) := by
 obtain ⟨r, hr, hq⟩ := jin_zeros n h
 obtain ⟨r', h1, h2⟩ := jin_quote r hr (zs n)
 exact ⟨34 :: escs n, 34, _, r', rfl, hq, h1, h2⟩
theorem escs_split (n k : Nat) : escs (n + k) = escs n ++ escs k := by
 induction k with
 | zero => simp [escs]
 | succ k ih => rw [Nat.add_succ, escs, ih, escs, List.append_assoc]
theorem long_json_over (n : Nat) (h : 200 < n) : ∃ (d m : List UInt8) (x : UInt8) (q r' : Reader), longDoc 1 n = d ++ x :: m ∧ (Reader.new 1 1).Quiet d q ∧ q.step x = (r', [], 5) := by
 obtain ⟨r, hr, hq⟩ := jin_zeros 200 (by decide)
 have h5 := jin_five r hr (zs 200) (by rw [zs_length]; decide)
 obtain ⟨r', h6⟩ := jin_over (rdB chk1 3) rd1 (zs 200) [0] 48 dig3 (by decide) (by rw [List.length_append, zs_length]; decide)
 refine ⟨(34 :: escs 200) ++ [92, 117, 48, 48, 48], escs (n - 201) ++ [34], 48, _, r', ?_, hq.append _ _ _ _ _ h5, h6⟩
 have e1 : escs n = escs 200 ++ (esc0 ++ escs (n - 201)) := by
  have e : n = 200 + (1 + (n - 201)) := by omega
  conv => lhs; rw [e]
  rw [escs_split, escs_split]
  rfl
 show 34 :: (escs n ++ [34]) = _
 rw [e1]
 simp [esc0]
theorem cin_text (n : Nat) (h0 : 0 < n) (h : n ≤ 200) (hd : List UInt8) (hq : (Reader.new 2 1).Quiet hd (cinB (wordC n [] Chk_zero))) : ∃ (d : List UInt8) (x : UInt8) (q r' : Reader), hd ++ zs n = d ++ [x] ∧ (Reader.new 2 1).Quiet d q ∧ q.step x = (r', [.word ⟨(zs n).toArray⟩], 0) ∧ r'.fin = (r', [], 0) := by
 obtain ⟨k, rfl⟩ : ∃ k, n = k + 1 := ⟨n - 1, by omega⟩
 obtain ⟨c', h1, h2⟩ := cin_zeros k [] Chk_zero chk_zero1
 refine ⟨hd ++ zs k, 0, _, cinB (wordD chk1), by rw [zs_succ, List.append_assoc], hq.append _ _ _ _ _ h2, ?_, rfl⟩
 have := cin_byte' (wordC 1 ([] ++ zs k) c') (by simp [wordC]) rfl 0 _ _ (word_last ([] ++ zs k) c' h1)
 rw [List.nil_append, ← zs_succ] at this
 exact this
theorem pin_text (a v n : Nat) (h0 : 0 < n) (h : n ≤ 200) (hd : List UInt8) (hq : (Reader.new 3 1).Quiet hd (pinB (wordC n [] Chk_zero) a v)) : ∃ (d : List UInt8) (x : UInt8) (q r' : Reader), hd ++ zs n = d ++ [x] ∧ (Reader.new 3 1).Quiet d q ∧ q.step x = (r', [.word ⟨(zs n).toArray⟩], 0) ∧ r'.fin = (r', [], 0) := by
 obtain ⟨k, rfl⟩ : ∃ k, n = k + 1 := ⟨n - 1, by omega⟩
 obtain ⟨c', h1, h2⟩ := pin_zeros a v k [] Chk_zero chk_zero1
 refine ⟨hd ++ zs k, 0, _, pinB (wordD chk1) a v, by rw [zs_succ, List.append_assoc], hq.append _ _ _ _ _ h2, ?_, rfl⟩
 have := pin_byte' a v (wordC 1 ([] ++ zs k) c') (by simp [wordC]) rfl 0 _ _ (word_last ([] ++ zs k) c' h1)
 rw [List.nil_append, ← zs_succ] at this
 exact this
theorem small_mod (n : Nat) (h : n < 65536) : (0 * 256 + n) % 18446744073709551616 = n := by omega
theorem long_cbor (n : Nat) (h : n ≤ 200) : ∃ (d : List UInt8) (x : UInt8) (q r' : Reader), longDoc 2 n = d ++ [x] ∧ (Reader.new 2 1).Quiet d q ∧ q.step x = (r', [.word ⟨(zs n).toArray⟩], 0) ∧ r'.fin = (r', [], 0) := by
 show ∃ (d : List UInt8) (x : UInt8) (q r' : Reader), put 3 n ++ zs n = d ++ [x] ∧ _
 by_cases h0 : n = 0
 ·subst h0
  exact ⟨[], 96, _, cinB (wordD Chk_zero), rfl, rfl, rfl, rfl⟩
 ·by_cases h24 : n < 24
  ·have hp : put 3 n = [UInt8.ofNat (96 + n)] := by unfold put; rw [if_pos h24, big_one]
   rw [hp]
   have hs := cin_few n h24
   rw [len_some n (by omega) h] at hs
   exact cin_text n (by omega) h _ ⟨_, hs, rfl⟩
  ·have hp : put 3 n = [120, UInt8.ofNat n] := by unfold put; rw [if_neg h24, if_pos (by omega), big_one, big_one]; rfl
   rw [hp]
   have hs := cin_end 0 n (by omega)
   rw [small_mod n (by omega), len_some n (by omega) h] at hs
   exact cin_text n (by omega) h _ ⟨cinH 0, rfl, _, hs, rfl⟩
theorem long_pack (n : Nat) (h : n ≤ 200) : ∃ (d : List UInt8) (x : UInt8) (q r' : Reader), longDoc 3 n = d ++ [x] ∧ (Reader.new 3 1).Quiet d q ∧ q.step x = (r', [.word ⟨(zs n).toArray⟩], 0) ∧ r'.fin = (r', [], 0) := by
 show ∃ (d : List UInt8) (x : UInt8) (q r' : Reader), packHead n ++ zs n = d ++ [x] ∧ _
 by_cases h0 : n = 0
 ·subst h0
  exact ⟨[], 160, _, pinB (wordD Chk_zero) 0 0, rfl, rfl, rfl, rfl⟩
 ·by_cases h32 : n < 32
  ·have hp : packHead n = [UInt8.ofNat (160 + n)] := by unfold packHead; rw [if_pos h32, big_one]
   rw [hp]
   have hs := pin_few n h32
   rw [len_some n (by omega) h] at hs
   exact pin_text 0 0 n (by omega) h _ ⟨_, hs, rfl⟩
  ·have hp : packHead n = [217, UInt8.ofNat n] := by
    unfold packHead
    rw [if_neg h32]
    unfold sized
    rw [if_pos (.inr (by simp; omega)), big_one, big_one]
    rfl
   rw [hp]
   have hs := pin_end 1 0 n (by omega)
   rw [small_mod n (by omega), len_some n (by omega) h] at hs
   exact pin_text 1 n n (by omega) h _ ⟨pinH 1 0, rfl, _, hs, rfl⟩
theorem big_two (n : Nat) : big n 2 = [UInt8.ofNat (n / 256), UInt8.ofNat n] := by simp [big, List.range_succ]
theorem ofNat_low (n : Nat) : UInt8.ofNat n = UInt8.ofNat (n % 256) := by
 apply UInt8.toNat_inj.1
 rw [UInt8.toNat_ofNat', UInt8.toNat_ofNat']
 omega
theorem two_mod (n : Nat) (h : n < 65536) : (n / 256 * 256 + n % 256) % 18446744073709551616 = n := by omega
theorem long_cbor_over (n : Nat) (h : 200 < n) (h4 : n ≤ 400) : ∃ (d m : List UInt8) (x : UInt8) (q r' : Reader), longDoc 2 n = d ++ x :: m ∧ (Reader.new 2 1).Quiet d q ∧ q.step x = (r', [], 5) := by
 show ∃ (d m : List UInt8) (x : UInt8) (q r' : Reader), put 3 n ++ zs n = d ++ x :: m ∧ _
 by_cases h256 : n < 256
 ·have hp : put 3 n = [120, UInt8.ofNat n] := by unfold put; rw [if_neg (by omega), if_pos h256, big_one, big_one]; rfl
  rw [hp]
  have hs := cin_end 0 n h256
  rw [small_mod n (by omega), len_large n h] at hs
  exact ⟨[120], zs n, UInt8.ofNat n, cinH 0, _, rfl, ⟨cinH 0, rfl, rfl⟩, hs⟩
 ·have hp : put 3 n = [121, UInt8.ofNat (n / 256), UInt8.ofNat (n % 256)] := by unfold put; rw [if_neg (by omega), if_neg h256, if_pos (by omega), big_one, big_two, ofNat_low n]; rfl
  rw [hp]
  have hs := cin_end (n / 256) (n % 256) (by omega)
  rw [two_mod n (by omega), len_large n h] at hs
  exact ⟨[121, UInt8.ofNat (n / 256)], zs n, UInt8.ofNat (n % 256), cinH (n / 256), _, rfl, cin_first2 (n / 256) (by omega), hs⟩
theorem long_pack_over (n : Nat) (h : 200 < n) (h4 : n ≤ 400) : ∃ (d m : List UInt8) (x : UInt8) (q r' : Reader), longDoc 3 n = d ++ x :: m ∧ (Reader.new 3 1).Quiet d q ∧ q.step x = (r', [], 5) := by
 show ∃ (d m : List UInt8) (x : UInt8) (q r' : Reader), packHead n ++ zs n = d ++ x :: m ∧ _
 by_cases h256 : n < 256
 ·have hp : packHead n = [217, UInt8.ofNat n] := by
   unfold packHead
   rw [if_neg (by omega)]
   unfold sized
   rw [if_pos (.inr (by simp; omega)), big_one, big_one]
   rfl
  rw [hp]
  have hs := pin_end 1 0 n h256
  rw [small_mod n (by omega), len_large n h] at hs
  exact ⟨[217], zs n, UInt8.ofNat n, pinH 1 0, _, rfl, ⟨pinH 1 0, rfl, rfl⟩, hs⟩
 ·have hp : packHead n = [218, UInt8.ofNat (n / 256), UInt8.ofNat (n % 256)] := by
   unfold packHead
   rw [if_neg (by omega)]
   unfold sized
   rw [if_neg (by simp; omega)]
   unfold sized
   rw [if_pos (.inr (by simp; omega)), big_one, big_two, ofNat_low n]
   rfl
  rw [hp]
  have hs := pin_end 2 (n / 256) (n % 256) (by omega)
  rw [two_mod n (by omega), len_large n h] at hs
  exact ⟨[218, UInt8.ofNat (n / 256)], zs n, UInt8.ofNat (n % 256), pinH 2 (n / 256), _, rfl, pin_first2 (n / 256) (by omega), hs⟩
theorem long_reads (f : Int) (hf : f = 1 ∨ f = 2 ∨ f = 3) (n : Nat) (h : n ≤ 200) : ∃ (d : List UInt8) (x : UInt8) (q r' : Reader), longDoc f n = d ++ [x] ∧ (Reader.new f 1).Quiet d q ∧ q.step x = (r', [.word ⟨(zs n).toArray⟩], 0) ∧ r'.fin = (r', [], 0) := by
 rcases hf with rfl | rfl | rfl
 ·exact long_json n h
 ·exact long_cbor n h
 ·exact long_pack n h
theorem long_over (f : Int) (hf : f = 1 ∨ f = 2 ∨ f = 3) (n : Nat) (h : 200 < n) (h4 : n ≤ 400) : ∃ (d m : List UInt8) (x : UInt8) (q r' : Reader), longDoc f n = d ++ x :: m ∧ (Reader.new f 1).Quiet d q ∧ q.step x = (r', [], 5) := by
 rcases hf with rfl | rfl | rfl
 ·exact long_json_over n h
 ·exact long_cbor_over n h h4
 ·exact long_pack_over n h h4
theorem long_right (f t : Int) (hf : f = 1 ∨ f = 2 ∨ f = 3) (ht : t = 1 ∨ t = 2 ∨ t = 3) : right ⟨f, t, 1, 0, 0⟩ = true := by
 rcases hf with rfl | rfl | rfl <;> rcases ht with rfl | rfl | rfl <;> decide
theorem long_batch (text : Part → List UInt8) (f t : Int) (hf : f = 1 ∨ f = 2 ∨ f = 3) (ht : t = 1 ∨ t = 2 ∨ t = 3) (n : Nat) (h : n ≤ 200) : batch text ⟨f, t, 1, 0, 0⟩ (longDoc f n) = (alone text t (.word ⟨(zs n).toArray⟩), 0) := by
 obtain ⟨d, x, q, r', e, h1, h2, h3⟩ := long_reads f hf n h
 rw [e]
 exact batch_one text f t 1 (long_right f t hf ht) d x q r' _ (.inr ⟨_, rfl⟩) h1 h2 h3
theorem long_batch_over (text : Part → List UInt8) (f t : Int) (hf : f = 1 ∨ f = 2 ∨ f = 3) (ht : t = 1 ∨ t = 2 ∨ t = 3) (n : Nat) (h : 200 < n) (h4 : n ≤ 400) : batch text ⟨f, t, 1, 0, 0⟩ (longDoc f n) = ([], 5) := by
 obtain ⟨d, m, x, q, r', e, h1, h2⟩ := long_over f hf n h h4
 rw [e]
 exact batch_err text f t 1 (long_right f t hf ht) d m x q r' 5 (by decide) h1 h2
end Pip
end Go.Proofs.YthnbpnfaghjamaaGreat
