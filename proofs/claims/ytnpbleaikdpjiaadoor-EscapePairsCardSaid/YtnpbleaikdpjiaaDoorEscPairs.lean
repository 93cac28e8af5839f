/- What a Reader tells of a rune's escapes. No program in sight. -/
import Derived.Test.YtnpbleaikdpjiaaDoorEscF
namespace Go.Proofs.YtnpbleaikdpjiaaDoor
namespace Esc

def table (upper : Bool) : List UInt8 := if upper then [48, 49, 50, 51, 52, 53, 54, 55, 56, 57, 65, 66, 67, 68, 69, 70] else [48, 49, 50, 51, 52, 53, 54, 55, 56, 57, 97, 98, 99, 100, 101, 102]

def dig (upper : Bool) (d : Nat) : UInt8 := (table upper).getD d 0

def uni (upper : Bool) (v : Nat) : List UInt8 := [92, 117, dig upper (v / 4096 % 16), dig upper (v / 256 % 16), dig upper (v / 16 % 16), dig upper (v % 16)]

theorem hex_dig : ∀ (upper : Bool) (d : Fin 16), hex (dig upper d.val) = (d.val : Int) := by decide +kernel

theorem hex_dig' (upper : Bool) (d : Nat) (h : d < 16) : hex (dig upper d) = (d : Int) := hex_dig upper ⟨d, h⟩

/-- Four digits behind a backslash and a u. -/
theorem uni_dig {r : Rdr} (h : r.Fresh) (upper : Bool) (v : Nat) (l t : List UInt8) : ∃ r3 : Rdr, r3.Dig 3 (v / 16 % 4096) 0 ∧ ans r (uni upper v ++ l) t = ans r3 (dig upper (v % 16) :: l) t := by
  obtain ⟨r1, h1, k1⟩ := step_back h
  obtain ⟨r2, h2, k2⟩ := step_back_u k1
  have e1 := hex_dig' upper (v / 4096 % 16) (by omega)
  have e2 := hex_dig' upper (v / 256 % 16) (by omega)
  have e3 := hex_dig' upper (v / 16 % 16) (by omega)
  obtain ⟨r3, h3, k3⟩ := step_dig k2 (dig upper (v / 4096 % 16)) (by omega) (by omega) (by omega)
  obtain ⟨r4, h4, k4⟩ := step_dig k3 (dig upper (v / 256 % 16)) (by omega) (by omega) (by omega)
  obtain ⟨r5, h5, k5⟩ := step_dig k4 (dig upper (v / 16 % 16)) (by omega) (by omega) (by omega)
  refine ⟨r5, ?_, ?_⟩
  · rw [e1, e2, e3] at k5
    have : ((0 * 16 + ((v / 4096 % 16 : Nat) : Int).toNat) * 16 + ((v / 256 % 16 : Nat) : Int).toNat) * 16 + ((v / 16 % 16 : Nat) : Int).toNat = v / 16 % 4096 := by omega
    rw [this] at k5
    exact k5
  · unfold uni
    simp only [List.cons_append, List.nil_append]
    rw [ans_ok _ _ _ _ _ _ h1, ans_ok _ _ _ _ _ _ h2, ans_ok _ _ _ _ _ _ h3, ans_ok _ _ _ _ _ _ h4, ans_ok _ _ _ _ _ _ h5]
    simp

theorem dig_last (upper : Bool) (v : Nat) (hv : v < 65536) : v = v / 16 % 4096 * 16 + (hex (dig upper (v % 16))).toNat := by
  rw [hex_dig' upper (v % 16) (by omega)]
  omega

theorem dig_nonneg (upper : Bool) (v : Nat) : 0 ≤ hex (dig upper (v % 16)) := by
  rw [hex_dig' upper (v % 16) (by omega)]
  omega

theorem read_of {l t : List UInt8} (h : ans Rdr.zero l [] = (t, true, 0)) : read l = (t, 0) := by
  unfold read
  rw [h]
  simp

theorem read_bad {l : List UInt8} (h : (ans Rdr.zero l []).2.2 = 9) : read l = ([], 9) := by
  unfold read
  rw [h]
  simp

theorem read_uni (upper : Bool) (v : Nat) (hv : v < 65536) (h2 : v < 55296 ∨ 57343 < v) : read (uni upper v) = (rune v, 0) := by
  obtain ⟨r3, k3, e3⟩ := uni_dig Rdr.zero_fresh upper v [] []
  obtain ⟨r4, h4, k4⟩ := step_last k3 _ (dig_nonneg upper v) v (dig_last upper v hv) (by omega) (by omega)
  rw [List.append_nil] at e3
  refine read_of ?_
  rw [e3, ans_ok _ _ _ _ _ _ h4]
  simp [ans, k4.whole]

theorem read_sole (upper : Bool) (v : Nat) (h1 : 55296 ≤ v) (h2 : v ≤ 57343) : read (uni upper v ++ [120]) = ([], 9) := by
  obtain ⟨r3, k3, e3⟩ := uni_dig Rdr.zero_fresh upper v [120] []
  refine read_bad ?_
  rw [e3]
  by_cases h : 56320 ≤ v
  · have h4 := step_last_low k3 _ (dig_nonneg upper v) v (dig_last upper v (by omega)) (by omega)
    rw [ans_err _ _ _ _ _ h4 (by decide)]
  · obtain ⟨r4, h4, k4⟩ := step_last_high k3 _ (dig_nonneg upper v) v (dig_last upper v (by omega)) (by omega)
    rw [ans_ok _ _ _ _ _ _ h4]
    have h5 : (r4.step 120).2.2 = 9 := by
      simp [Rdr.step, k4.e, k4.pair, Rdr.may, k4.state, show 0 < v by omega]
    rw [ans_err _ _ _ _ _ h5 (by decide)]

theorem read_pair (upper : Bool) (v : Nat) (h1 : 65536 ≤ v) (h2 : v ≤ 1114111) : read (uni upper (55296 + (v - 65536) / 1024) ++ uni upper (56320 + (v - 65536) % 1024)) = (rune v, 0) := by
  obtain ⟨a, ha⟩ : ∃ a, a = 55296 + (v - 65536) / 1024 := ⟨_, rfl⟩
  obtain ⟨c, hc⟩ : ∃ c, c = 56320 + (v - 65536) % 1024 := ⟨_, rfl⟩
  rw [← ha, ← hc]
  have a1 : 55296 ≤ a ∧ a < 56320 := by omega
  have c1 : 56320 ≤ c ∧ c < 57344 := by omega
  obtain ⟨r3, k3, e3⟩ := uni_dig Rdr.zero_fresh upper a (uni upper c) []
  obtain ⟨r4, h4, k4⟩ := step_last_high k3 _ (dig_nonneg upper a) a (dig_last upper a (by omega)) a1
  obtain ⟨r5, h5, k5⟩ := step_hi k4 (by omega)
  obtain ⟨r6, h6, k6⟩ := step_back_u k5
  have f1 := hex_dig' upper (c / 4096 % 16) (by omega)
  have f2 := hex_dig' upper (c / 256 % 16) (by omega)
  have f3 := hex_dig' upper (c / 16 % 16) (by omega)
  have f4 := hex_dig' upper (c % 16) (by omega)
  have m1 : lowMay 0 (dig upper (c / 4096 % 16)) = true := by unfold lowMay; rw [f1]; simp; omega
  have m2 : lowMay 1 (dig upper (c / 256 % 16)) = true := by unfold lowMay; rw [f2]; simp; omega
  have m3 : lowMay 2 (dig upper (c / 16 % 16)) = true := by unfold lowMay; rw [f3]; simp; omega
  have m4 : lowMay 3 (dig upper (c % 16)) = true := by unfold lowMay; rw [f4]; simp; omega
  obtain ⟨r7, h7, k7⟩ := step_dig k6 (dig upper (c / 4096 % 16)) (by omega) (fun _ => m1) (by omega)
  obtain ⟨r8, h8, k8⟩ := step_dig k7 (dig upper (c / 256 % 16)) (by omega) (fun _ => m2) (by omega)
  obtain ⟨r9, h9, k9⟩ := step_dig k8 (dig upper (c / 16 % 16)) (by omega) (fun _ => m3) (by omega)
  rw [f1, f2, f3] at k9
  have hv : ((0 * 16 + ((c / 4096 % 16 : Nat) : Int).toNat) * 16 + ((c / 256 % 16 : Nat) : Int).toNat) * 16 + ((c / 16 % 16 : Nat) : Int).toNat = c / 16 % 4096 := by omega
  rw [hv] at k9
  obtain ⟨r10, h10, k10⟩ := step_last_pair k9 (by omega) _ m4 c (dig_last upper c (by omega))
  refine read_of ?_
  rw [e3, ans_ok _ _ _ _ _ _ h4]
  conv => lhs; rw [uni]
  rw [ans_ok _ _ _ _ _ _ h5, ans_ok _ _ _ _ _ _ h6, ans_ok _ _ _ _ _ _ h7, ans_ok _ _ _ _ _ _ h8, ans_ok _ _ _ _ _ _ h9, ans_ok _ _ _ _ _ _ h10]
  have hx : 65536 + ((a : Int) - 55296) * 1024 + c - 56320 = (v : Int) := by omega
  rw [hx]
  simp [ans, k10.whole]
end Esc
end Go.Proofs.YtnpbleaikdpjiaaDoor
