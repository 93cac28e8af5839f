/- Base64 in plain Lean: what base.Put computes, byte by byte. No program in sight. -/
import Derived.Below
import Derived.Lib.Bytealg
namespace Go.Proofs.YtopaadmnlghdaaaDoor
namespace Base

def signs : List UInt8 := [65, 66, 67, 68, 69, 70, 71, 72, 73, 74, 75, 76, 77, 78, 79, 80, 81, 82, 83, 84, 85, 86, 87, 88, 89, 90, 97, 98, 99, 100, 101, 102, 103, 104, 105, 106, 107, 108, 109, 110, 111, 112, 113, 114, 115, 116, 117, 118, 119, 120, 121, 122, 48, 49, 50, 51, 52, 53, 54, 55, 56, 57, 45, 95]

def sign (k : Nat) : UInt8 := signs.getD k 0

/-- The signs of the highest bits of v, an n-bit number: six bits a sign. -/
def emits (v : Nat) : Nat → List UInt8
  | n + 6 => sign (v / 2 ^ n % 64) :: emits v n
  | _ => []

/-- Put, with n bits v left of the bytes ahead. -/
def putGo : List UInt8 → Nat → Nat → List UInt8
  | [], v, n => if 0 < n then [sign (v * 2 ^ (6 - n) % 64)] else []
  | b :: l, v, n => emits (v * 256 + b.toNat) (n + 8) ++ putGo l ((v * 256 + b.toNat) % 2 ^ ((n + 8) % 6)) ((n + 8) % 6)

def put (l : List UInt8) : List UInt8 := putGo l 0 0

theorem emits_lt (v n : Nat) (h : n < 6) : emits v n = [] := by
  unfold emits
  split
  · omega
  · rfl

theorem emits_ge (v n : Nat) (h : 6 ≤ n) : emits v n = sign (v / 2 ^ (n - 6) % 64) :: emits v (n - 6) := by
  obtain ⟨m, rfl⟩ : ∃ m, n = m + 6 := ⟨n - 6, by omega⟩
  simp [emits]

theorem sign_get (k : Nat) (h : k < 64) : signs[k]? = some (sign k) := by
  unfold sign
  rw [List.getD_eq_getElem?_getD]
  have : k < signs.length := h
  simp [List.getElem?_eq_getElem this]
theorem putGo0 (b : UInt8) (l : List UInt8) (v : Nat) : putGo (b :: l) v 0 = sign ((v * 256 + b.toNat) / 4 % 64) :: putGo l ((v * 256 + b.toNat) % 4) 2 := by
  simp [putGo, emits]
theorem putGo2 (b : UInt8) (l : List UInt8) (v : Nat) : putGo (b :: l) v 2 = sign ((v * 256 + b.toNat) / 16 % 64) :: putGo l ((v * 256 + b.toNat) % 16) 4 := by
  simp [putGo, emits]
theorem putGo4 (b : UInt8) (l : List UInt8) (v : Nat) : putGo (b :: l) v 4 = sign ((v * 256 + b.toNat) / 64 % 64) :: sign ((v * 256 + b.toNat) % 64) :: putGo l 0 0 := by
  simp [putGo, emits, Nat.mod_one]

/-- A sign's value; below 0: it is none. -/
def val (c : UInt8) : Int := Lib.indexByte signs c

theorem val_all : ∀ n : Fin 256, val (UInt8.ofNat n.val) = -1 ∨ (0 ≤ val (UInt8.ofNat n.val) ∧ val (UInt8.ofNat n.val) < 64 ∧ sign (val (UInt8.ofNat n.val)).toNat = UInt8.ofNat n.val) := by decide +kernel

theorem val_or (c : UInt8) : val c = -1 ∨ (0 ≤ val c ∧ val c < 64 ∧ sign (val c).toNat = c) := by
  have h := val_all ⟨c.toNat, c.toNat_lt⟩
  have e : UInt8.ofNat c.toNat = c := by simp
  simpa only [e] using h

theorem val_sign : ∀ k : Fin 64, val (sign k.val) = (k.val : Int) := by decide +kernel

theorem signs_ascii : ∀ b ∈ signs, b.toNat < 128 := by decide +kernel

theorem val_high (c : UInt8) (h : 128 ≤ c.toNat) : val c = -1 := by
  rcases val_or c with h1 | ⟨h1, h2, h3⟩
  · exact h1
  · exfalso
    have hm := sign_get (val c).toNat (by omega)
    rw [h3] at hm
    have := signs_ascii c (List.mem_of_getElem? hm)
    omega

/-- The bytes of signs, n bits v left of those ahead; without the last look whether there are such bytes. -/
def getGo : List UInt8 → Nat → Nat → List UInt8 → Option (List UInt8)
  | [], _, _, out => some out
  | c :: l, v, n, out =>
    if val c < 0 then none
    else if 2 ≤ n then getGo l ((v * 64 + (val c).toNat) % 2 ^ (n - 2)) (n - 2) (out ++ [UInt8.ofNat ((v * 64 + (val c).toNat) / 2 ^ (n - 2))])
    else getGo l ((v * 64 + (val c).toNat) % 2 ^ (n + 6)) (n + 6) out

/-- Get. -/
def get (l : List UInt8) : Option (List UInt8) :=
  match getGo l 0 0 [] with
  | none => none
  | some out => if put out = l then some out else none

theorem getGo_none (c : UInt8) (l : List UInt8) (v n : Nat) (out : List UInt8) (h : val c < 0) : getGo (c :: l) v n out = none := by
  simp [getGo, h]
theorem getGo_more (c : UInt8) (l : List UInt8) (v n : Nat) (out : List UInt8) (h : 0 ≤ val c) (hn : 2 ≤ n) :
    getGo (c :: l) v n out = getGo l ((v * 64 + (val c).toNat) % 2 ^ (n - 2)) (n - 2) (out ++ [UInt8.ofNat ((v * 64 + (val c).toNat) / 2 ^ (n - 2))]) := by
  simp [getGo, hn, show ¬ val c < 0 by omega]
theorem getGo_less (c : UInt8) (l : List UInt8) (v n : Nat) (out : List UInt8) (h : 0 ≤ val c) (hn : n < 2) :
    getGo (c :: l) v n out = getGo l ((v * 64 + (val c).toNat) % 2 ^ (n + 6)) (n + 6) out := by
  simp [getGo, show ¬ 2 ≤ n by omega, show ¬ val c < 0 by omega]

/-- How many signs n bytes have. -/
def len (n : Int) : Int := if n < 0 ∨ 1000000 < n then 0 else n / 3 * 4 + (n % 3 * 4 + 2) / 3

theorem put3 (a b c : UInt8) (l : List UInt8) : put (a :: b :: c :: l) =
    sign (a.toNat / 4 % 64) :: sign ((a.toNat % 4 * 256 + b.toNat) / 16 % 64) :: sign (((a.toNat % 4 * 256 + b.toNat) % 16 * 256 + c.toNat) / 64 % 64) :: sign (((a.toNat % 4 * 256 + b.toNat) % 16 * 256 + c.toNat) % 64) :: put l := by
  unfold put
  rw [putGo0, putGo2, putGo4, Nat.zero_mul, Nat.zero_add]

theorem put_length : ∀ l : List UInt8, (put l).length = (4 * l.length + 2) / 3
  | [] => rfl
  | [a] => by unfold put; rw [putGo0]; simp [putGo]
  | [a, b] => by unfold put; rw [putGo0, putGo2]; simp [putGo]
  | a :: b :: c :: l => by
    have := put_length l
    rw [put3]
    simp only [List.length_cons]
    omega

theorem len_put (l : List UInt8) (h : l.length ≤ 1000000) : len l.length = ((put l).length : Int) := by
  rw [put_length]
  unfold len
  rw [if_neg (by omega)]
  omega

theorem get_some {l out : List UInt8} (h : get l = some out) : put out = l := by
  unfold get at h
  split at h
  · cases h
  · split at h
    · cases h; assumption
    · cases h

theorem get_length {l out : List UInt8} (h : get l = some out) : l.length = (4 * out.length + 2) / 3 := by
  rw [← put_length, get_some h]
end Base
end Go.Proofs.YtopaadmnlghdaaaDoor
