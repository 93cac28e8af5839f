/- Texts of the walk, joined: PpG. -/
import Derived.Test.YthnbpnfaghjamaaGreatM32
import Derived.Test.YthnbpnfaghjamaaGreatM34
/- MessagePack's writer: its bounds; what it does with parts in a row. -/
namespace Go.Proofs.YthnbpnfaghjamaaGreat
open Go.RowKit
open Json (Part Wr)
namespace Pip

theorem sized_len' (F v : Nat) (l : List Nat) (h : ∀ n ∈ l, n ≤ 8) : (sized F v l 0).length ≤ 9 := Pk.sized_len F v l 0 h

theorem packPlain_len (p : Part) (hp : Fine p) : (packPlain p).1.length ≤ 209 := by
  cases p with
  | bool b => cases b <;> simp [packPlain]
  | whole n m =>
    cases n
    · simp only [packPlain]
      split
      · simp [big_len]
      · exact Nat.le_trans (sized_len' _ _ _ (by simp)) (by decide)
    · simp only [packPlain]
      unfold packBelow
      repeat' split
      all_goals simp [big_len]
  | word s =>
    have h1 := hp.text s (.inl rfl)
    have h3 : (bytesOf s).length = s.size := rfl
    have h2 := sized_len' 217 s.size [1, 2, 4] (by simp)
    simp only [packPlain]
    split
    · simp only [List.length_append, big_len]; omega
    · simp only [List.length_append]; omega
  | blob s =>
    have h1 := hp.text s (.inr rfl)
    have h3 : (bytesOf s).length = s.size := rfl
    have h2 := sized_len' 196 s.size [1, 2, 4] (by simp)
    simp only [packPlain, List.length_append]
    omega
  | _ => simp [packPlain]

theorem packBegin_len (m : Bool) (c : Int) : (packBegin m c).1.length ≤ 209 := by
  unfold packBegin
  split
  · simp
  · split
    · simp [big_len]
    · exact Nat.le_trans (sized_len' _ _ _ (by simp)) (by decide)

theorem pack_len (W : Cw) (p : Part) (hp : Fine p) : (W.pack p).1.length ≤ 300 := by
  have hpl := packPlain_len p hp
  unfold Cw.pack
  split
  · simp
  · cases p with
    | close =>
      dsimp only
      unfold Cw.packClose
      split
      · simp
      · split <;> simp
    | begins m c =>
      have hb := packBegin_len m c
      dsimp only
      split
      · simp
      · unfold Cw.packOn
        dsimp only
        split
        · simp
        · exact Nat.le_trans hb (by decide)
    | _ =>
      dsimp only
      split
      · simp
      · unfold Cw.packOn
        dsimp only
        split
        · simp
        · exact Nat.le_trans hpl (by decide)

theorem wok_pack (text : Part → List UInt8) : Wok 3 300 (fun _ => True) text 0 (fun _ => True) where
  step W hk wb n h w hi hw hf hn _ _ p hp _ := by
    cases W with
    | json W => cases hk
    | cbor W => cases hk
    | pack W => exact Pk.step_any hi hw hf hn p hp
  len W hk p hp _ := by
    cases W with
    | json W => cases hk
    | cbor W => cases hk
    | pack W => exact pack_len W p hp
  of _ _ _ _ := trivial
  stage _ _ _ _ := trivial
  room := by decide

/-- One more part, where nothing went wrong yet. -/
def Cw.feed (a : List UInt8 × Nat × Cw) (x : Part) : List UInt8 × Nat × Cw :=
  if a.2.1 ≠ 0 then a else (a.1 ++ (a.2.2.pack x).1, (a.2.2.pack x).2.1, (a.2.2.pack x).2.2)

theorem feed_stop (l : List Part) (a : List UInt8 × Nat × Cw) (h : a.2.1 ≠ 0) : l.foldl Cw.feed a = a := by
  induction l with
  | nil => rfl
  | cons x l ih => rw [List.foldl_cons, show Cw.feed a x = a from if_pos h]; exact ih

theorem feed_base (l : List Part) (o : List UInt8) (e : Nat) (W : Cw) : l.foldl Cw.feed (o, e, W) = (o ++ (l.foldl Cw.feed ([], e, W)).1, (l.foldl Cw.feed ([], e, W)).2) := by
  induction l generalizing o e W with
  | nil => simp
  | cons x l ih =>
    by_cases h : e = 0
    · subst h
      simp only [List.foldl_cons]
      rw [show Cw.feed (o, 0, W) x = (o ++ (W.pack x).1, (W.pack x).2.1, (W.pack x).2.2) from rfl, show Cw.feed ([], 0, W) x = ((W.pack x).1, (W.pack x).2.1, (W.pack x).2.2) from rfl]
      rw [ih (o ++ (W.pack x).1), ih (W.pack x).1]
      simp
    · rw [feed_stop _ (o, e, W) h, feed_stop _ ([], e, W) h]
      simp

theorem some_feed (text : Part → List UInt8) : ∀ (l : List Part) (W : Cw), (Writer.pack W).some text l = ((l.foldl Cw.feed ([], 0, W)).1, (l.foldl Cw.feed ([], 0, W)).2.1, .pack (l.foldl Cw.feed ([], 0, W)).2.2)
  | [], W => rfl
  | x :: l, W => by
    rw [List.foldl_cons, show Cw.feed ([], 0, W) x = ((W.pack x).1, (W.pack x).2.1, (W.pack x).2.2) from rfl]
    unfold Writer.some
    have e1 : (Writer.pack W).step text x = ((W.pack x).1, (W.pack x).2.1, .pack (W.pack x).2.2) := rfl
    rw [e1]
    dsimp only
    split
    · rename_i h
      rw [feed_stop _ _ h]
    · rename_i h
      have h0 : (W.pack x).2.1 = 0 := by simpa using h
      rw [h0, some_feed text l, feed_base l (W.pack x).1]

theorem one_feed (text : Part → List UInt8) (R : Reader) (W : Cw) (s : Stg) (ov : Bool) (e0 : Nat) (v : Part) :
    (Pp.mk R (.pack W) (some s) ov e0).one text v = (Pp.mk R (.pack ((s.step v).2.1.foldl Cw.feed ([], (s.step v).2.2, W)).2.2) (some (s.step v).1) ov ((s.step v).2.1.foldl Cw.feed ([], (s.step v).2.2, W)).2.1, ((s.step v).2.1.foldl Cw.feed ([], (s.step v).2.2, W)).1) := by
  unfold Pp.one
  dsimp only
  split
  · rename_i h
    rw [feed_stop _ _ h]
  · rename_i h
    have h0 : (s.step v).2.2 = 0 := by simpa using h
    rw [h0, some_feed]

theorem feed_take (l : List Part) (a : List UInt8 × Nat × Cw) (i : Nat) (h : i < l.length) : (l.take (i + 1)).foldl Cw.feed a = Cw.feed ((l.take i).foldl Cw.feed a) l[i] := by
  rw [List.take_succ_eq_append_getElem h, List.foldl_append]
  rfl

theorem feed_len (l : List Part) (hl : ∀ v ∈ l, Fine v) (e : Nat) (W : Cw) : (l.foldl Cw.feed ([], e, W)).1.length ≤ 300 * l.length := by
  induction l generalizing e W with
  | nil => simp
  | cons x l ih =>
    by_cases h : e = 0
    · subst h
      rw [List.foldl_cons, show Cw.feed ([], 0, W) x = ((W.pack x).1, (W.pack x).2.1, (W.pack x).2.2) from rfl, feed_base]
      have h1 := pack_len W x (hl x (List.mem_cons_self ..))
      have h2 := ih (fun v hv => hl v (List.mem_cons_of_mem _ hv)) (W.pack x).2.1 (W.pack x).2.2
      simp only [List.length_append, List.length_cons]
      omega
    · rw [feed_stop _ ([], e, W) h]
      simp

theorem feed_fits (l : List Part) (hl : ∀ v ∈ l, Fine v) (e : Nat) (o : List UInt8) (W : Cw) (n : Nat) (hW : W.Fits n) : (l.foldl Cw.feed (o, e, W)).2.2.Fits (n + l.length) := by
  induction l generalizing e o W n with
  | nil => exact hW
  | cons x l ih =>
    by_cases h : e = 0
    · subst h
      rw [List.foldl_cons, show Cw.feed (o, 0, W) x = (o ++ (W.pack x).1, (W.pack x).2.1, (W.pack x).2.2) from rfl]
      exact (ih (fun v hv => hl v (List.mem_cons_of_mem _ hv)) (W.pack x).2.1 _ _ (n + 1) (hW.pack x (hl x (List.mem_cons_self ..)))).mono (by simp only [List.length_cons]; omega)
    · rw [feed_stop _ (o, e, W) h]
      exact hW.mono (by omega)
end Pip
end Go.Proofs.YthnbpnfaghjamaaGreat
