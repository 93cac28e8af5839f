/- A purse in plain Lean: room that is shared among sessions. No program in sight. -/
import Derived.Test.YtpeimoknmlmppaaSlc
namespace Go.Proofs.Ytpeimoknmlmppaa
open Go.RowKit
namespace Purse

/-- What is above a session's own. -/
def over (n : Nat) : Nat := n - 700

def overs (l : List Nat) : Nat := (l.map over).sum

structure St where
  rest : Nat
  has : List Nat
  opn : List Bool

structure St.Fits (p : St) : Prop where
  same : p.has.length = p.opn.length
  few : p.opn.length ≤ 8
  room : overs p.has ≤ p.rest
  small : p.rest ≤ 40000

def St.left (p : St) : Nat := p.rest - overs p.has

theorem sum_set (l : List Nat) (i x : Nat) (h : i < l.length) : (l.set i x).sum + l[i] = l.sum + x := by
  induction l generalizing i with
  | nil => simp at h
  | cons y l ih =>
    cases i with
    | zero => simp; omega
    | succ i =>
      have h1 : i < l.length := by simpa using h
      have := ih i h1
      simp
      omega

theorem le_sum (l : List Nat) (i : Nat) (h : i < l.length) : l[i] ≤ l.sum := by
  have := sum_set l i 0 h
  omega

theorem overs_set (l : List Nat) (i x : Nat) (h : i < l.length) : overs (l.set i x) + over l[i] = overs l + over x := by
  unfold overs
  rw [List.map_set]
  have := sum_set (l.map over) i (over x) (by simpa using h)
  simpa using this

theorem over_le_overs (l : List Nat) (i : Nat) (h : i < l.length) : over l[i] ≤ overs l := by
  have := le_sum (l.map over) i (by simpa using h)
  simpa [overs] using this

theorem St.Fits.one {p : St} (f : p.Fits) (i : Nat) (h : i < p.has.length) : p.has[i] ≤ 40700 := by
  have := over_le_overs p.has i h
  have := f.room
  have := f.small
  unfold over at *
  omega

theorem sum_le (l : List Nat) (B : Nat) (h : ∀ x ∈ l, x ≤ B) : l.sum ≤ l.length * B := by
  induction l with
  | nil => simp
  | cons y l ih =>
    have h1 := ih fun x hx => h x (List.mem_cons_of_mem _ hx)
    have h2 := h y (List.mem_cons_self ..)
    rw [List.sum_cons, List.length_cons, Nat.succ_mul]
    omega

theorem sum_take_succ (l : List Nat) (k : Nat) (h : k < l.length) : (l.take (k + 1)).sum = (l.take k).sum + l[k] := by
  rw [List.take_succ_eq_append_getElem h, List.sum_append]
  simp

theorem sum_take_le (l : List Nat) (k : Nat) : (l.take k).sum ≤ l.sum := by
  have := congrArg List.sum (List.take_append_drop k l)
  rw [List.sum_append] at this
  omega

theorem overs_take_succ (l : List Nat) (k : Nat) (h : k < l.length) : overs (l.take (k + 1)) = overs (l.take k) + over l[k] := by
  unfold overs
  rw [List.map_take, List.map_take, sum_take_succ _ _ (by simpa using h)]
  simp

theorem overs_take_le (l : List Nat) (k : Nat) : overs (l.take k) ≤ overs l := by
  unfold overs
  rw [List.map_take]
  exact sum_take_le _ _

/-- A session may have x: it has it. -/
def St.put (p : St) (i x : Nat) : St := { p with has := p.has.set i x }

def St.may (p : St) (i x : Nat) : Bool := p.opn.getD i false && decide (over x ≤ p.left + over (p.has.getD i 0))

theorem St.Fits.put {p : St} (f : p.Fits) (i x : Nat) (h : i < p.has.length) (hm : over x ≤ p.left + over (p.has.getD i 0)) : (p.put i x).Fits := by
  have e : p.has.getD i 0 = p.has[i]'h := by simp [List.getD_eq_getElem?_getD, h]
  rw [e] at hm
  refine ⟨(List.length_set ..).trans f.same, f.few, ?_, f.small⟩
  have h1 := overs_set p.has i x h
  have h2 := f.room
  show overs (p.has.set i x) ≤ p.rest
  unfold St.left at hm
  generalize overs (p.has.set i x) = A at *
  generalize overs p.has = B at *
  generalize over x = C at *
  generalize over (p.has[i]'h) = D at *
  omega

def St.turn (p : St) (i : Nat) (b : Bool) : St := { p with opn := p.opn.set i b }
theorem St.Fits.turn {p : St} (f : p.Fits) (i : Nat) (b : Bool) : (p.turn i b).Fits :=
  ⟨f.same.trans (List.length_set ..).symm, Nat.le_trans (Nat.le_of_eq (List.length_set ..)) f.few, f.room, f.small⟩

def ints (l : List Nat) : List Value := l.map fun (n : Nat) => .int .i64 (n : Int)
def bools (l : List Bool) : List Value := l.map .bool

end Purse
end Go.Proofs.Ytpeimoknmlmppaa
