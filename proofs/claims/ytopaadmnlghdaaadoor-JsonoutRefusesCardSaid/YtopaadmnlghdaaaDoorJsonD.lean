/- Documents out of numbers, in plain Lean; a writer takes each of them, and is at its end just behind it. No walk in sight. -/
import Derived.Test.YtopaadmnlghdaaaDoorJsonO
namespace Go.Proofs.YtopaadmnlghdaaaDoor
open Go.RowKit
namespace Json

/-- The numbers, one by one; behind them zeros. -/
def num (l : List Int) (k : Nat) : Nat := ((l.getD k 0) % 65536).toNat

theorem num_lt (l : List Int) (k : Nat) : num l k < 65536 := by unfold num; omega

def signsOf : List (List UInt8) := [[97], [34], [92], [10], [195, 169], [1], [240, 157, 132, 158], [122]]

def textGo (x : Nat) : Nat → List UInt8
  | 0 => []
  | k + 1 => signsOf.getD (x / 2 ^ ((k + 1) % 8) % 8) [] ++ textGo x k

/-- A text out of a number. -/
def textOf (x : Nat) : List UInt8 := textGo x (x % 8)

theorem signsOf_len : ∀ k : Fin 8, (signsOf.getD k.val []).length ≤ 4 := by decide

theorem textGo_len (x : Nat) : ∀ k, (textGo x k).length ≤ 4 * k
  | 0 => by simp [textGo]
  | k + 1 => by
    have h1 := signsOf_len ⟨x / 2 ^ ((k + 1) % 8) % 8, Nat.mod_lt _ (by omega)⟩
    have h2 := textGo_len x k
    simp only [textGo, List.length_append]
    simp only at h1
    omega

theorem textOf_len (x : Nat) : (textOf x).length ≤ 28 := by
  have := textGo_len x (x % 8)
  unfold textOf
  omega

def items (f : Nat → List Evt × Nat) : Nat → Nat → List Evt × Nat
  | 0, a => ([], a)
  | n + 1, a => ((f a).1 ++ (items f n (f a).2).1, (items f n (f a).2).2)

def key (l : List Int) (a : Nat) : Evt := ⟨3, false, 0, ⟨(textOf (num l a)).toArray⟩, 0⟩

def pairs (l : List Int) (f : Nat → List Evt × Nat) : Nat → Nat → List Evt × Nat
  | 0, a => ([], a)
  | n + 1, a => (key l a :: ((f (a + 1)).1 ++ (pairs l f n (f (a + 1)).2).1), (pairs l f n (f (a + 1)).2).2)

def ends : Evt := ⟨7, false, 0, ⟨#[]⟩, 0⟩

/-- A value; fuel: how much deeper it may go. -/
def item (l : List Int) : Nat → Nat → List Evt × Nat
  | 0, a =>
    let x := num l a
    if x % 8 = 0 then ([Evt.zero], a + 1)
    else if x % 8 = 1 then ([⟨1, decide (x / 8 % 2 = 1), 0, ⟨#[]⟩, 0⟩], a + 1)
    else if x % 8 ≤ 3 then ([⟨2, decide (x / 8 % 2 = 1), x * x / 2 ^ (x % 8), ⟨#[]⟩, 0⟩], a + 1)
    else if x % 8 = 4 then ([⟨3, false, 0, ⟨(textOf x).toArray⟩, 0⟩], a + 1)
    else if x % 8 = 5 then ([⟨3, false, 0, ⟨#[]⟩, 0⟩], a + 1)
    else ([⟨2, false, x, ⟨#[]⟩, 0⟩], a + 1)
  | f + 1, a =>
    let x := num l a
    if x % 8 = 0 then ([Evt.zero], a + 1)
    else if x % 8 = 1 then ([⟨1, decide (x / 8 % 2 = 1), 0, ⟨#[]⟩, 0⟩], a + 1)
    else if x % 8 ≤ 3 then ([⟨2, decide (x / 8 % 2 = 1), x * x / 2 ^ (x % 8), ⟨#[]⟩, 0⟩], a + 1)
    else if x % 8 = 4 then ([⟨3, false, 0, ⟨(textOf x).toArray⟩, 0⟩], a + 1)
    else if x % 8 = 5 then (⟨5, false, 0, ⟨#[]⟩, ((x / 8 % 4 : Nat) : Int)⟩ :: ((items (item l f) (x / 8 % 4) (a + 1)).1 ++ [ends]), (items (item l f) (x / 8 % 4) (a + 1)).2)
    else (⟨6, false, 0, ⟨#[]⟩, ((x / 8 % 3 : Nat) : Int)⟩ :: ((pairs l (item l f) (x / 8 % 3) (a + 1)).1 ++ [ends]), (pairs l (item l f) (x / 8 % 3) (a + 1)).2)

def doc (l : List Int) (depth : Nat) : List Evt := (item l depth 0).1

/-- Parts that a writer takes, one behind the other, none of them at its end. -/
inductive Good : Wr → List Evt → Wr → Prop
  | nil (W : Wr) : Good W [] W
  | cons {W W' : Wr} {e : Evt} {es : List Evt} (p : Part) (hd : W.done = false) (hp : e.part = some p) (hs : e.small) (h0 : (W.step text p).2.1 = 0) (h : Good (W.step text p).2.2 es W') : Good W (e :: es) W'

theorem Good.append {W W' W'' : Wr} {a b : List Evt} (h : Good W a W') (k : Good W' b W'') : Good W (a ++ b) W'' := by
  induction h with
  | nil W => exact k
  | cons p hd hp hs h0 h ih => exact .cons p hd hp hs h0 (ih k)

theorem Good.one {W : Wr} {e : Evt} (p : Part) (hd : W.done = false) (hp : e.part = some p) (hs : e.small) (h0 : (W.step text p).2.1 = 0) : Good W [e] (W.step text p).2.2 := .cons p hd hp hs h0 (.nil _)

/-- It may take any value now. -/
def Wr.free (W : Wr) : Prop := W.done = false ∧ ∀ c, W.opened.getLast? = some c → c.pairs = true → c.between = true

/-- The writer behind a value. -/
def Wr.after (W : Wr) : Wr := ⟨W.bumped, decide (W.opened.length = 0)⟩

theorem Wr.free_bad {W : Wr} (h : W.free) (p : Part) : W.bad p = false := by
  unfold Wr.bad
  cases hl : W.opened.getLast? with
  | none => rfl
  | some c =>
    simp only
    cases hp : c.pairs with
    | false => rfl
    | true => rw [h.2 c hl hp]; rfl

theorem Good.plain {W : Wr} (h : W.free) {e : Evt} (p : Part) (hp : e.part = some p) (hs : e.small) (hc : p.isClose = false) (hg : p.isBegin = false) : Good W [e] W.after := by
  have hst := Wr.step_plain text W p (e.part_may p hp) hc hg h.1 (Wr.free_bad h p)
  have := Good.one (W := W) p h.1 hp hs (by rw [hst])
  rw [hst] at this
  exact this

theorem small_num (k : Int) (y : Bool) (m : Nat) (hm : m < 18446744073709551616) (c : Int) : (Evt.mk k y m ⟨#[]⟩ c).small := ⟨hm, by show 0 ≤ 1000; omega⟩
theorem small_text (x : Nat) : (Evt.mk 3 false 0 ⟨(textOf x).toArray⟩ 0).small := ⟨by show 0 < _; omega, by
  show (⟨(textOf x).toArray⟩ : ByteArray).size ≤ 1000
  rw [show (⟨(textOf x).toArray⟩ : ByteArray).size = (textOf x).length from List.size_toArray ..]
  have := textOf_len x
  omega⟩
theorem ends_small : ends.small := ⟨by show 0 < _; omega, by show 0 ≤ 1000; omega⟩

/-- A list's values: the container that is innermost has n parts more. -/
theorem items_good (f : Nat → List Evt × Nat) (hf : ∀ (W : Wr), W.free → ∀ a, Good W (f a).1 W.after) (O : List Box) :
    ∀ (n k a : Nat), Good ⟨O ++ [⟨false, k⟩], false⟩ (items f n a).1 ⟨O ++ [⟨false, k + n⟩], false⟩
  | 0, k, a => .nil _
  | n + 1, k, a => by
    have hfree : (Wr.mk (O ++ [⟨false, k⟩]) false).free := ⟨rfl, fun c hc hp => by simp at hc; subst hc; cases hp⟩
    have h1 := hf _ hfree a
    have he : (Wr.mk (O ++ [⟨false, k⟩]) false).after = ⟨O ++ [⟨false, k + 1⟩], false⟩ := by simp [Wr.after, Wr.bumped]
    rw [he] at h1
    have h2 := items_good f hf O n (k + 1) (f a).2
    rw [show k + 1 + n = k + (n + 1) by omega] at h2
    exact h1.append h2

theorem pairs_good (l : List Int) (f : Nat → List Evt × Nat) (hf : ∀ (W : Wr), W.free → ∀ a, Good W (f a).1 W.after) (O : List Box) :
    ∀ (n k a : Nat), Good ⟨O ++ [⟨true, 2 * k⟩], false⟩ (pairs l f n a).1 ⟨O ++ [⟨true, 2 * (k + n)⟩], false⟩
  | 0, k, a => .nil _
  | n + 1, k, a => by
    have hst := Wr.step_plain text (Wr.mk (O ++ [⟨true, 2 * k⟩]) false) (.word ⟨(textOf (num l a)).toArray⟩) rfl rfl rfl rfl (by simp [Wr.bad, Part.isWord])
    have h0 := Good.one (W := Wr.mk (O ++ [⟨true, 2 * k⟩]) false) (e := key l a) (.word ⟨(textOf (num l a)).toArray⟩) rfl rfl (small_text _) (by rw [hst])
    rw [hst] at h0
    have he0 : (Wr.mk (Wr.mk (O ++ [⟨true, 2 * k⟩]) false).bumped (decide ((Wr.mk (O ++ [⟨true, 2 * k⟩]) false).opened.length = 0))) = ⟨O ++ [⟨true, 2 * k + 1⟩], false⟩ := by simp [Wr.bumped]
    simp only at h0
    rw [he0] at h0
    have hfree : (Wr.mk (O ++ [⟨true, 2 * k + 1⟩]) false).free := ⟨rfl, fun c hc _ => by
      simp at hc; subst hc
      have : (2 * k + 1) % 2 = 1 := by omega
      simp [Box.between, this]⟩
    have h1 := hf _ hfree (a + 1)
    have he : (Wr.mk (O ++ [⟨true, 2 * k + 1⟩]) false).after = ⟨O ++ [⟨true, 2 * (k + 1)⟩], false⟩ := by simp [Wr.after, Wr.bumped]; omega
    rw [he] at h1
    have h2 := pairs_good l f hf O n (k + 1) (f (a + 1)).2
    rw [show k + 1 + n = k + (n + 1) by omega] at h2
    exact h0.append (h1.append h2)

/-- A container round such parts. -/
theorem Good.boxed {W : Wr} (h : W.free) (m : Bool) (c : Int) (hc : -1 ≤ c) (k : Int) (hk : (Evt.mk k false 0 ⟨#[]⟩ c).part = some (.begins m c)) (es : List Evt) (n : Nat) (hn : (Box.mk m n).between = false)
    (hes : Good ⟨W.bumped ++ [⟨m, 0⟩], false⟩ es ⟨W.bumped ++ [⟨m, n⟩], false⟩) : Good W (⟨k, false, 0, ⟨#[]⟩, c⟩ :: (es ++ [ends])) W.after := by
  have hst := Wr.step_begin text W m c (by simp [Part.may]; exact hc) h.1 (Wr.free_bad h _)
  refine .cons (.begins m c) h.1 hk (small_num _ _ _ (by omega) _) (by rw [hst]) ?_
  rw [hst]
  refine hes.append ?_
  have hcl := Wr.step_close_good text W.bumped ⟨m, n⟩ hn
  have := Good.one (W := ⟨W.bumped ++ [⟨m, n⟩], false⟩) (e := ends) .close rfl rfl ends_small (by rw [hcl])
  rw [hcl] at this
  simp only at this
  rw [Wr.bumped_length] at this
  exact this

theorem item_good (l : List Int) : ∀ (f : Nat) (W : Wr), W.free → ∀ a, Good W (item l f a).1 W.after
  | 0, W, h, a => by
    have hx := num_lt l a
    have hq : num l a * num l a / 2 ^ (num l a % 8) < 18446744073709551616 := Nat.lt_of_le_of_lt (Nat.div_le_self _ _) (Nat.lt_of_lt_of_le (Nat.mul_lt_mul'' hx hx) (by omega))
    unfold item
    dsimp only
    repeat' split
    · exact Good.plain h .null rfl (small_num _ _ _ (by omega) _) rfl rfl
    · exact Good.plain h (.bool _) rfl (small_num _ _ _ (by omega) _) rfl rfl
    · exact Good.plain h (.whole _ _) rfl (small_num _ _ _ hq _) rfl rfl
    · exact Good.plain h (.word _) rfl (small_text _) rfl rfl
    · exact Good.plain h (.word _) rfl (small_num _ _ _ (by omega) _) rfl rfl
    · exact Good.plain h (.whole _ _) rfl (small_num _ _ _ (by omega) _) rfl rfl
  | f + 1, W, h, a => by
    have hx := num_lt l a
    have hq : num l a * num l a / 2 ^ (num l a % 8) < 18446744073709551616 := Nat.lt_of_le_of_lt (Nat.div_le_self _ _) (Nat.lt_of_lt_of_le (Nat.mul_lt_mul'' hx hx) (by omega))
    have ih := item_good l f
    unfold item
    dsimp only
    repeat' split
    · exact Good.plain h .null rfl (small_num _ _ _ (by omega) _) rfl rfl
    · exact Good.plain h (.bool _) rfl (small_num _ _ _ (by omega) _) rfl rfl
    · exact Good.plain h (.whole _ _) rfl (small_num _ _ _ hq _) rfl rfl
    · exact Good.plain h (.word _) rfl (small_text _) rfl rfl
    · refine Good.boxed h false _ (by omega) 5 ?_ _ (num l a / 8 % 4) rfl ?_
      · unfold Evt.part; simp only; rw [if_neg (by decide), if_neg (by decide), if_neg (by decide), if_neg (by decide), if_neg (by decide), if_pos trivial, if_neg (by omega)]
      · have := items_good (item l f) ih W.bumped (num l a / 8 % 4) 0 (a + 1)
        rw [Nat.zero_add] at this
        exact this
    · refine Good.boxed h true _ (by omega) 6 ?_ _ (2 * (num l a / 8 % 3)) ?_ ?_
      · unfold Evt.part; simp only; rw [if_neg (by decide), if_neg (by decide), if_neg (by decide), if_neg (by decide), if_neg (by decide), if_neg (by decide), if_pos trivial, if_neg (by omega)]
      · have : 2 * (num l a / 8 % 3) % 2 = 0 := by omega
        simp [Box.between, this]
      · have := pairs_good l (item l f) ih W.bumped (num l a / 8 % 3) 0 (a + 1)
        rw [Nat.zero_add, Nat.mul_zero] at this
        exact this

/-- A whole document: the writer is at its end behind it. -/
theorem doc_good (l : List Int) (depth : Nat) : Good Wr.zero (doc l depth) ⟨[], true⟩ :=
  item_good l depth Wr.zero ⟨rfl, fun c hc => by cases hc⟩ 0

theorem items_len (f : Nat → List Evt × Nat) (B : Nat) (hf : ∀ a, (f a).1.length ≤ B ∧ (f a).2 ≤ a + B) : ∀ n a, (items f n a).1.length ≤ n * B ∧ (items f n a).2 ≤ a + n * B
  | 0, a => by simp [items]
  | n + 1, a => by
    have h1 := hf a
    have h2 := items_len f B hf n (f a).2
    simp only [items, List.length_append, Nat.succ_mul]
    omega

theorem pairs_len (l : List Int) (f : Nat → List Evt × Nat) (B : Nat) (hf : ∀ a, (f a).1.length ≤ B ∧ (f a).2 ≤ a + B) : ∀ n a, (pairs l f n a).1.length ≤ n * (B + 1) ∧ (pairs l f n a).2 ≤ a + n * (B + 1)
  | 0, a => by simp [pairs]
  | n + 1, a => by
    have h1 := hf (a + 1)
    have h2 := pairs_len l f B hf n (f (a + 1)).2
    simp only [pairs, List.length_append, List.length_cons, Nat.succ_mul]
    omega

/-- How many parts a value has, and how many numbers it takes, at most. -/
theorem item_len (l : List Int) : ∀ f a, (item l f a).1.length ≤ 4 * 3 ^ f - 2 ∧ (item l f a).2 ≤ a + (4 * 3 ^ f - 2)
  | 0, a => by
    unfold item
    dsimp only
    repeat' split
    all_goals simp
  | f + 1, a => by
    have ih := item_len l f
    have h3 : 3 ^ (f + 1) = 3 * 3 ^ f := by rw [Nat.pow_succ, Nat.mul_comm]
    have hp : 0 < 3 ^ f := Nat.pow_pos (by omega)
    rw [h3]
    generalize 3 ^ f = P at ih hp
    unfold item
    dsimp only
    repeat' split
    · simp; omega
    · simp; omega
    · simp; omega
    · simp; omega
    · have h := items_len (item l f) (4 * P - 2) ih (num l a / 8 % 4) (a + 1)
      have hn : num l a / 8 % 4 ≤ 3 := by omega
      have hm := Nat.mul_le_mul_right (4 * P - 2) hn
      simp only [List.length_cons, List.length_append, List.length_nil]
      omega
    · have h := pairs_len l (item l f) (4 * P - 2) ih (num l a / 8 % 3) (a + 1)
      have hn : num l a / 8 % 3 ≤ 2 := by omega
      have hm := Nat.mul_le_mul_right (4 * P - 2 + 1) hn
      simp only [List.length_cons, List.length_append, List.length_nil]
      omega

/-- Whatever a good list's parts are, All takes them all. -/
theorem Good.all {W W' : Wr} {es : List Evt} (h : Good W es W') (hd : W'.done = true) : (W.all text es).2 = 0 := by
  induction h with
  | nil W => rw [Wr.all_nil, hd]; rfl
  | cons p hd0 hp hs h0 h ih => rw [Wr.all_good _ _ _ _ p hp h0]; exact ih hd

theorem Good.small {W W' : Wr} {es : List Evt} (h : Good W es W') : ∀ e ∈ es, e.small := by
  induction h with
  | nil W => simp
  | cons p hd0 hp hs h0 h ih => intro e he; rcases List.mem_cons.1 he with rfl | he; exact hs; exact ih e he
end Json
end Go.Proofs.YtopaadmnlghdaaaDoor
