/- Texts of the walk, joined. -/
import Derived.Test.YtnnkkgglfajmhaaGreatM45
import Derived.KernelRfl
set_option maxRecDepth 100000
set_option maxHeartbeats 8000000
namespace Go.Proofs.YtnnkkgglfajmhaaGreat
section
namespace Ses
open Pip
open Json (Part)
def tx (g : Part → List UInt8) : Part → List UInt8
 | .whole false 5 => [53]
 | p => g p
theorem tx_same (g : Part → List UInt8) (h : g (.whole false 5) = [53]) : tx g = g := by
 funext p
 unfold tx
 split
 ·exact h.symm
 ·rfl
def wset : Setup := ⟨1, 1, 2, 0, 0⟩
def wfed : St := (fresh []).feed (helloBytes wset) 99
def wstart (text : Part → List UInt8) : St := (wfed.run text none 16).1.write 9
def fives (n : Nat) : List UInt8 := 91 :: (List.replicate n [53, 44]).flatten
def doc (n : Nat) : List UInt8 := fives n ++ [53, 93]
def wround (text : Part → List UInt8) (x : St × List UInt8 × Nat) : St × List UInt8 × Nat :=
 (((x.1.feed x.2.1 999).run text none 16).1, x.2.1.drop (x.1.takes x.2.1 999), ((x.1.feed x.2.1 999).run text none 16).2)
def wit (text : Part → List UInt8) (n : Nat) : Nat → St × List UInt8 × Nat
 | 0 => (wstart text, doc n, 1)
 | i + 1 => wround text (wit text n i)
def wend (text : Part → List UInt8) (n : Nat) : Bool :=
 (List.range 5).all (fun i => decide ((wit text n (i + 1)).2.2 ≠ 0)) && decide ((wit text n 6).2.2 = 0) && !(wit text n 6).1.ready && decide (20 ≤ (wit text n 6).1.out.length) && ((wit text n 6).1.write 20).ready
theorem wend_all (g : Part → List UInt8) : ((List.range 21).all fun n => wend (tx g) (n + 40)) = true := by kernel_rfl
structure Wend (text : Part → List UInt8) (n : Nat) : Prop where
 on : ∀ i, i < 5 → (wit text n (i + 1)).2.2 ≠ 0
 off : (wit text n 6).2.2 = 0
 full : (wit text n 6).1.ready = false
 out : 20 ≤ (wit text n 6).1.out.length
 again : ((wit text n 6).1.write 20).ready = true
theorem wend_at (text : Part → List UInt8) (h : text (.whole false 5) = [53]) (n : Nat) (h0 : 40 ≤ n) (h1 : n ≤ 60) : Wend text n := by
 have e := wend_all text
 rw [tx_same text h] at e
 have e2 := List.all_eq_true.1 e (n - 40) (List.mem_range.2 (by omega))
 rw [show n - 40 + 40 = n by omega] at e2
 unfold wend at e2
 simp only [Bool.and_eq_true, decide_eq_true_eq, List.all_eq_true, List.mem_range, Bool.not_eq_true'] at e2
 exact ⟨e2.1.1.1.1, e2.1.1.1.2, e2.1.1.2, e2.1.2, e2.2⟩
theorem fives_succ (i : Nat) : fives i ++ [53, 44] = fives (i + 1) := by
 unfold fives
 rw [List.replicate_succ', List.flatten_append]
 simp
theorem fives_length (i : Nat) : (fives i).length = 2 * i + 1 := by
 induction i with
 | zero => rfl
 | succ i ih => rw [← fives_succ, List.length_append, ih]; simp; omega
theorem doc_length (n : Nat) : (doc n).length = 2 * n + 3 := by
 unfold doc; rw [List.length_append, fives_length]; rfl
theorem wit_length (text : Part → List UInt8) (n : Nat) : ∀ i, (wit text n i).2.1.length ≤ 2 * n + 3
 | 0 => Nat.le_of_eq (doc_length n)
 | i + 1 => by
  show (List.drop _ _).length ≤ _
  rw [List.length_drop]
  have := wit_length text n i
  omega
theorem wfed_takes : (fresh []).takes (helloBytes wset) 99 = 8 := by decide
theorem wfed_good (T : Esc.Tabs) : wfed.Good T 0 := (fresh_good T [] (by decide)).feed _ _
theorem wstart_good (T : Esc.Tabs) : (wstart (textT T)).Good T 16 := (run_good none 16 0 wfed (wfed_good T) (by omega)).write _
theorem wit_good (T : Esc.Tabs) (n : Nat) : ∀ i, i ≤ 100 → (wit (textT T) n i).1.Good T (16 * (i + 1))
 | 0, _ => wstart_good T
 | i + 1, h => by
  have g := (wit_good T n i (by omega)).feed (wit (textT T) n i).2.1 999
  have := run_good none 16 (16 * (i + 1)) _ g (by omega)
  rw [show 16 * (i + 1 + 1) = 16 * (i + 1) + 16 by omega]
  exact this
end Ses
end
end Go.Proofs.YtnnkkgglfajmhaaGreat
