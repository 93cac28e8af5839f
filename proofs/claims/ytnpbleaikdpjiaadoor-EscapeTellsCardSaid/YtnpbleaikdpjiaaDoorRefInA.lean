/- What truchmanref1.Inside hands back; the steps of its rounds in plain Lean. -/
import Derived.Test.YtnpbleaikdpjiaaDoorRefEsc
import Derived.Test.YtnpbleaikdpjiaaDoorRefLow
import Derived.Test.YtnpbleaikdpjiaaDoorRefWrite
import Derived.Test.YtnpbleaikdpjiaaDoorRefRune
namespace Go.Proofs.YtnpbleaikdpjiaaDoor
open Go.RowKit
namespace Ref

theorem results_tmp4 {fn : Func} {t u v x : Tmp} (h : fn.results = #[.tmp t, .tmp u, .tmp v, .tmp x]) (tmps : Array Value) (P : Program) (w : World) :
    (results fn tmps).run P w = .ok (.tuple #[tmps.getD t undef, tmps.getD u undef, tmps.getD v undef, tmps.getD x undef]) w := by
  simp [results, h, go_sem]

def InOut (l : List UInt8) (e : Ending) : Prop :=
  ∃ (t : ByteArray) (n : Int) (wh : Bool) (er : Nat), e = .returned (.tuple #[.string t, .int .i64 n, .bool wh, .int .i64 er]) ∧ er = (Esc.ans Esc.Rdr.zero l []).2.2 ∧
    (er = 0 → t = ⟨(Esc.ans Esc.Rdr.zero l []).1.toArray⟩ ∧ wh = (Esc.ans Esc.Rdr.zero l []).2.1)

theorem InOut.bad {l l' acc : List UInt8} {r : Esc.Rdr} {t : ByteArray} {n : Int} {wh : Bool} {er : Nat} (h : Esc.ans r l' acc = Esc.ans Esc.Rdr.zero l []) (he : (Esc.ans r l' acc).2.2 = er) (h0 : er ≠ 0) :
    InOut l (.returned (.tuple #[.string t, .int .i64 n, .bool wh, .int .i64 er])) :=
  ⟨t, n, wh, er, rfl, by rw [← h, he], fun h1 => absurd h1 h0⟩

theorem InOut.good {l l' acc o : List UInt8} {r : Esc.Rdr} {t : ByteArray} {n : Int} {wh : Bool} (h : Esc.ans r l' acc = Esc.ans Esc.Rdr.zero l []) (he : Esc.ans r l' acc = (o, wh, 0)) (ht : t = ⟨o.toArray⟩) :
    InOut l (.returned (.tuple #[.string t, .int .i64 n, .bool wh, .int .i64 (0 : Nat)])) :=
  ⟨t, n, wh, 0, rfl, by rw [← h, he], fun _ => by rw [← h, he]; exact ⟨ht, rfl⟩⟩

theorem drop_two (s : ByteArray) (i : Nat) (h : i + 1 < s.size) : s.data.toList.drop i = s[i]'(by omega) :: s[i + 1]'h :: s.data.toList.drop (i + 2) := by
  rw [Mem.drop_one s i (by omega), Mem.drop_one s (i + 1) h]

theorem extract_drop (s : ByteArray) (k : Nat) (_h : k ≤ s.size) : (s.extract k s.size).data.toList = s.data.toList.drop k := by
  rw [ByteArray.data_extract, Array.toList_extract]
  simp
  exact List.take_of_length_le (by rw [List.length_drop, Array.length_toList]; exact Nat.le_refl _)

theorem slice_from (s : ByteArray) (k : Nat) (K : Int) (hK : K = (k : Int)) (h : k ≤ s.size) (w : World) :
    (Instr.slice 9 (.string s) (some (.int .i64 K)) none none).run Tryd.prog w = .ok (.string (s.extract k s.size)) w := by
  subst hK
  rw [run_slice_string_from_if w 9 s .i64 k Tryd.underlying9, if_pos (by omega)]
  rfl

theorem slice_at (s : ByteArray) (k : Nat) (A B : Int) (hA : A = (k : Int)) (hB : B = (k : Int) + 1) (h : k < s.size) (c : UInt8) (hc : s[k]'h = c) (w : World) :
    (Instr.slice 9 (.string s) (some (.int .i64 A)) (some (.int .i64 B)) none).run Tryd.prog w = .ok (.string ⟨#[c]⟩) w := by
  subst hA hB
  exact slice_one s k h c hc w

theorem back_letter {r : Esc.Rdr} (h : r.Fresh) (d x : UInt8) (hd : d ≠ 117) (hs : Esc.short d = some x) (l acc : List UInt8) : ∃ r' : Esc.Rdr, r'.Fresh ∧ Esc.ans r (92 :: d :: l) acc = Esc.ans r' l (acc ++ [x]) := by
  obtain ⟨r1, e1, k1⟩ := Esc.step_back h
  obtain ⟨r2, e2, k2⟩ := Esc.step_back_short k1 d x hd hs
  exact ⟨r2, k2, by rw [Esc.ans_ok _ _ _ _ _ _ e1, Esc.ans_ok _ _ _ _ _ _ e2, List.append_nil]⟩

theorem back_wrong {r : Esc.Rdr} (h : r.Fresh) (d : UInt8) (hd : d ≠ 117) (hs : Esc.short d = none) (l acc : List UInt8) : (Esc.ans r (92 :: d :: l) acc).2.2 = 2 := by
  obtain ⟨r1, e1, k1⟩ := Esc.step_back h
  rw [Esc.ans_ok _ _ _ _ _ _ e1]
  exact Esc.ans_bad _ _ _ _ _ (Esc.step_back_bad k1 d hd hs) (by decide)

theorem back_end {r : Esc.Rdr} (h : r.Fresh) (acc : List UInt8) : Esc.ans r [92] acc = (acc, false, 0) := by
  obtain ⟨r1, e1, k1⟩ := Esc.step_back h
  rw [Esc.ans_ok _ _ _ _ _ _ e1, List.append_nil]
  exact Esc.ans_nil _ _ k1.not_whole

theorem back_u {r : Esc.Rdr} (h : r.Fresh) (l acc : List UInt8) : ∃ r' : Esc.Rdr, r'.Dig 0 0 0 ∧ Esc.ans r (92 :: 117 :: l) acc = Esc.ans r' l acc := by
  obtain ⟨r1, e1, k1⟩ := Esc.step_back h
  obtain ⟨r2, e2, k2⟩ := Esc.step_back_u k1
  exact ⟨r2, k2, by rw [Esc.ans_ok _ _ _ _ _ _ e1, Esc.ans_ok _ _ _ _ _ _ e2, List.append_nil, List.append_nil]⟩

theorem short_none (d : UInt8) (h1 : d ≠ 34) (h2 : d ≠ 92) (h3 : d ≠ 47) (h4 : d ≠ 98) (h5 : d ≠ 102) (h6 : d ≠ 110) (h7 : d ≠ 114) (h8 : d ≠ 116) : Esc.short d = none := by
  simp [Esc.short, h1, h2, h3, h4, h5, h6, h7, h8]

theorem four_ans' (l : List UInt8) (r : Esc.Rdr) (t : List UInt8) (hd : r.Dig 0 0 0) (v n e : Nat) (ho : Esc.fourGo 4 l 0 0 = (v, n, e)) :
    (e = 2 ∧ (Esc.ans r l t).2.2 = 2) ∨ (e = 0 ∧ n < 4 ∧ Esc.ans r l t = (t, false, 0)) ∨
    (e = 0 ∧ n = 4 ∧ 4 ≤ l.length ∧ v < 65536 ∧
      ((56320 ≤ v ∧ v < 57344 ∧ (Esc.ans r l t).2.2 = 9) ∨
       (55296 ≤ v ∧ v < 56320 ∧ ∃ r' : Esc.Rdr, r'.Hi v ∧ Esc.ans r l t = Esc.ans r' (l.drop 4) t) ∨
       (¬ (56320 ≤ v ∧ v < 57344) ∧ ¬ (55296 ≤ v ∧ v < 56320) ∧ ∃ r' : Esc.Rdr, r'.Fresh ∧ Esc.ans r l t = Esc.ans r' (l.drop 4) (t ++ Esc.rune (v : Int))))) := by
  have h := Esc.four_ans 4 0 l r 0 t (by omega) (by omega) hd (by decide)
  rw [ho] at h
  exact h

theorem four_of (s : ByteArray) (k : Nat) (hk : k ≤ s.size) (hs : s.size ≤ 1000) (v n e : Nat) (V : Int) (hV : V = (v : Int)) (ho : Esc.fourGo 4 (s.data.toList.drop k) 0 0 = (v, n, e)) (w : World) :
    Calls Tryd.prog 24 #[.string (s.extract k s.size)] w fun x w' => x = .returned (.tuple #[.int .i64 V, .int .i64 n, .int .i64 e]) ∧ w = w' := by
  refine (four_any (s.extract k s.size) w (by rw [ByteArray.size_extract]; omega)).mono ?_
  rintro x w' ⟨hx, hw⟩
  rw [extract_drop s k hk, ho] at hx
  exact ⟨by rw [hx, hV]; rfl, hw⟩

theorem low_of (s : ByteArray) (k : Nat) (hk : k ≤ s.size) (hs : s.size ≤ 1000) (n : Nat) (b : Bool) (ho : Esc.lowGo 6 (s.data.toList.drop k) 0 = (n, b)) (w : World) :
    Calls Tryd.prog 25 #[.string (s.extract k s.size)] w fun x w' => x = .returned (.tuple #[.int .i64 n, .bool b]) ∧ w = w' := by
  refine (low_any (s.extract k s.size) w (by rw [ByteArray.size_extract]; omega)).mono ?_
  rintro x w' ⟨hx, hw⟩
  rw [extract_drop s k hk, ho] at hx
  exact ⟨hx, hw⟩

theorem size_snoc (S : ByteArray) (x : UInt8) : (S ++ ⟨#[x]⟩ : ByteArray).size = S.size + 1 := by
  rw [ByteArray.size_append]; rfl

theorem lead_cases (c : UInt8) : (c.toNat < 128 ∧ Esc.lead c = (1, 0, 0)) ∨ (128 ≤ c.toNat ∧ (Esc.lead c).1 = 0) ∨
    (128 ≤ c.toNat ∧ 2 ≤ (Esc.lead c).1 ∧ (Esc.lead c).1 ≤ 4 ∧ 128 ≤ (Esc.lead c).2.1.toNat) := by
  unfold Esc.lead
  by_cases h : c.toNat < 128
  · left; rw [if_pos h]; exact ⟨h, rfl⟩
  · right
    rw [if_neg h]
    have h' : 128 ≤ c.toNat := by omega
    repeat' split
    all_goals first
      | exact .inr ⟨h', by decide, by decide, by decide⟩
      | exact .inl ⟨h', rfl⟩

theorem inner_more {r : Esc.Rdr} {k : Nat} {lo hi : UInt8} (h : r.Open (k + 1) lo hi) (d : UInt8) (h1 : 128 ≤ d.toNat) (h2 : lo.toNat ≤ d.toNat) (h3 : d.toNat ≤ hi.toNat) (l acc : List UInt8) :
    ∃ r' : Esc.Rdr, r'.Open k 128 191 ∧ Esc.ans r (d :: l) acc = Esc.ans r' l (acc ++ [d]) := by
  obtain ⟨r1, e1, k1⟩ := Esc.step_open_ok h d h1 (by omega)
  exact ⟨r1, k1, by rw [Esc.ans_ok _ _ _ _ _ _ e1]⟩

/-- The state behind j bytes of a rune of n. -/
def St (n j : Nat) (lo hi : UInt8) (r : Esc.Rdr) : Prop :=
  (j = 0 ∧ r.Fresh) ∨ (0 < j ∧ j = n ∧ r.Fresh) ∨ (0 < j ∧ j < n ∧ r.Open (n - j) (if j = 1 then lo else 128) (if j = 1 then hi else 191))

theorem St.fresh {n : Nat} {lo hi : UInt8} {r : Esc.Rdr} (h : St n n lo hi r) : r.Fresh := by
  rcases h with h | h | h
  · exact h.2
  · exact h.2.2
  · omega

theorem St.first {n : Nat} {lo hi : UInt8} {r : Esc.Rdr} (h : St n 0 lo hi r) : r.Fresh := by
  rcases h with h | h | h
  · exact h.2
  · omega
  · omega

theorem St.open' {n j : Nat} {lo hi : UInt8} {r : Esc.Rdr} (h : St n j lo hi r) (h0 : 0 < j) (h1 : j < n) : r.Open (n - j - 1 + 1) (if j = 1 then lo else 128) (if j = 1 then hi else 191) := by
  rcases h with h | h | h
  · omega
  · omega
  · rw [show n - j - 1 + 1 = n - j by omega]; exact h.2.2

theorem St.next {n j : Nat} {lo hi : UInt8} {r : Esc.Rdr} (h : r.Open (n - (j + 1)) 128 191) (h0 : 0 < j) (h1 : j < n) : St n (j + 1) lo hi r := by
  by_cases e : j + 1 = n
  · refine .inr (.inl ⟨by omega, e, ?_⟩)
    rw [e, Nat.sub_self] at h
    exact h.fresh
  · refine .inr (.inr ⟨by omega, by omega, ?_⟩)
    rw [if_neg (by omega), if_neg (by omega)]
    exact h

theorem St.one {r : Esc.Rdr} (h : r.Fresh) (c : UInt8) (n : Nat) (lo hi : UInt8) (hn : Esc.lead c = (n, lo, hi)) (h0 : n ≠ 0) (h1 : 32 ≤ c.toNat) (h2 : c ≠ 34) (h3 : c ≠ 92) (l acc : List UInt8) :
    ∃ r' : Esc.Rdr, St n 1 lo hi r' ∧ Esc.ans r (c :: l) acc = Esc.ans r' l (acc ++ [c]) := by
  rcases lead_cases c with ⟨g1, g2⟩ | ⟨g1, g2⟩ | ⟨g1, g2, g3, g4⟩
  · rw [g2] at hn
    simp only [Prod.mk.injEq] at hn
    obtain ⟨rfl, _⟩ := hn
    obtain ⟨r1, e1, k1⟩ := Esc.step_ascii h c h1 g1 h2 h3
    exact ⟨r1, .inr (.inl ⟨by omega, rfl, k1⟩), by rw [Esc.ans_ok _ _ _ _ _ _ e1]⟩
  · rw [hn] at g2
    exact absurd g2 h0
  · obtain ⟨r1, e1, k1⟩ := Esc.step_lead h c g1 (by omega)
    rw [hn] at g2 k1
    refine ⟨r1, .inr (.inr ⟨by omega, by dsimp only at g2; omega, ?_⟩), by rw [Esc.ans_ok _ _ _ _ _ _ e1]⟩
    rw [if_pos rfl, if_pos rfl]
    exact k1

theorem lead_lo {c : UInt8} {n : Nat} {lo hi : UInt8} (hn : Esc.lead c = (n, lo, hi)) (h1 : 1 < n) : 128 ≤ lo.toNat := by
  rcases lead_cases c with ⟨g1, g2⟩ | ⟨g1, g2⟩ | ⟨g1, g2, g3, g4⟩
  · rw [g2] at hn
    simp only [Prod.mk.injEq] at hn
    omega
  · rw [hn] at g2
    dsimp only at g2
    omega
  · rw [hn] at g4
    exact g4

theorem lead_le {c : UInt8} {n : Nat} {lo hi : UInt8} (hn : Esc.lead c = (n, lo, hi)) : n ≤ 4 := by
  rcases lead_cases c with ⟨g1, g2⟩ | ⟨g1, g2⟩ | ⟨g1, g2, g3, g4⟩
  · rw [g2] at hn
    simp only [Prod.mk.injEq] at hn
    omega
  · rw [hn] at g2
    dsimp only at g2
    omega
  · rw [hn] at g3
    exact g3

theorem lead_out_of (c : UInt8) (n : Nat) (lo hi : UInt8) (hn : Esc.lead c = (n, lo, hi)) (w : World) :
    Calls Tryd.prog 26 #[.int .u8 c.toNat] w fun e w' => e = .returned (.tuple #[.int .i64 n, .int .u8 lo.toNat, .int .u8 hi.toNat]) ∧ w = w' := by
  refine (lead_any c w).mono ?_
  rintro e w' ⟨he, hw⟩
  rw [hn] at he
  exact ⟨he, hw⟩

end Ref
end Go.Proofs.YtnpbleaikdpjiaaDoor
