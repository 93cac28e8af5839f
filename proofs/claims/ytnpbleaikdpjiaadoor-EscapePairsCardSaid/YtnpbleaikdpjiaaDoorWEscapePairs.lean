/- EscapePairs: the walk. -/
import Derived.Test.YtnpbleaikdpjiaaDoorAlive5
import Derived.Test.YtnpbleaikdpjiaaDoorRefRune
import Derived.Test.YtnpbleaikdpjiaaDoorEscPairs
import Derived.OpenShut
import Derived.RegionTactic
import Derived.BigRegion
import Derived.ChangeAlike
namespace Go.Proofs.YtnpbleaikdpjiaaDoor.escapePairs
open Go.RowKit

theorem and15 (x : Nat) (hx : x < 2097152) : bits .and .i64 (x : Int) 15 = ((x % 16 : Nat) : Int) := Int64.andMask x 4 (by omega) (by omega)

theorem table_get (upper : Bool) (s : ByteArray) (hs : s = ⟨(Esc.table upper).toArray⟩) (k : Nat) (h : k < s.size) : s[k] = Esc.dig upper k := by
  subst hs
  have hk : k < (Esc.table upper).length := by rw [Mem.size_mk] at h; exact h
  show (Esc.table upper)[k] = _
  unfold Esc.dig
  rw [List.getD_eq_getElem?_getD, List.getElem?_eq_getElem hk]
  rfl

theorem table_size (upper : Bool) (s : ByteArray) (hs : s = ⟨(Esc.table upper).toArray⟩) : s.size = 16 := by
  subst hs
  rw [Mem.size_mk]
  cases upper <;> rfl

theorem four_nums (a b c d : UInt8) : strOfNums [(a.toNat : Int), (b.toNat : Int), (c.toNat : Int), (d.toNat : Int)] = ⟨#[a, b, c, d]⟩ := by
  simp [strOfNums]

set_option maxRecDepth 100000 in
set_option maxHeartbeats 2000000 in
theorem u_any (upper : Bool) (s : ByteArray) (hs : s = ⟨(Esc.table upper).toArray⟩) (b : Nat) (v : Nat) (V : Int) (hV : V = (v : Int)) (w : World) (hv : v < 2097152) (hc : w.cell? ⟨b, 0, none⟩ = some (.string s)) :
    Calls Tryd.prog 18 #[.int .i64 V, .pointer (some ⟨b, 0, none⟩)] w fun e w' => e = .returned (.string ⟨(Esc.uni upper v).toArray⟩) ∧ Below w.heap.size w w' := by
  subst hV
  have c4 := Conv.four_drew
  have c4' := Conv.four
  have z4 : ∀ a b c d : Int, (strOfNums [a, b, c, d]).size = 4 := fun _ _ _ _ => rfl
  obtain ⟨d1, e1⟩ : ∃ d, d = v / 4096 % 16 := ⟨_, rfl⟩
  have a1 : bits .and .i64 ((v : Int) / 4096) 15 = (d1 : Int) := by rw [e1]; exact and15 (v / 4096) (by omega)
  have f1 : (d1 : Int) < 16 := by omega
  have E1 := Lib.hid e1
  clear e1
  obtain ⟨d2, e2⟩ : ∃ d, d = v / 256 % 16 := ⟨_, rfl⟩
  have a2 : bits .and .i64 ((v : Int) / 256) 15 = (d2 : Int) := by rw [e2]; exact and15 (v / 256) (by omega)
  have f2 : (d2 : Int) < 16 := by omega
  have E2 := Lib.hid e2
  clear e2
  obtain ⟨d3, e3⟩ : ∃ d, d = v / 16 % 16 := ⟨_, rfl⟩
  have a3 : bits .and .i64 ((v : Int) / 16) 15 = (d3 : Int) := by rw [e3]; exact and15 (v / 16) (by omega)
  have f3 : (d3 : Int) < 16 := by omega
  have E3 := Lib.hid e3
  clear e3
  obtain ⟨d4, e4⟩ : ∃ d, d = v % 16 := ⟨_, rfl⟩
  have a4 : bits .and .i64 ((v : Int)) 15 = (d4 : Int) := by rw [e4]; exact and15 v (by omega)
  have f4 : (d4 : Int) < 16 := by omega
  have E4 := Lib.hid e4
  clear e4
  have hz : s.size = 16 := table_size upper s hs
  have HS := Lib.hid hs
  clear hs
  go_enter Tryd.func18, Tryd.ntmps18
  go_wp2
  go_region
  go_wp2
  go_ret
  refine ⟨Ref.ret_str ?_, ((Below.refl _ _).alloc (Nat.le_refl _) _).drew⟩
  rw [table_get upper s HS.out d1, table_get upper s HS.out d2, table_get upper s HS.out d3, table_get upper s HS.out d4, four_nums, E1.out, E2.out, E3.out, E4.out]
  rfl

theorem run_u (upper : Bool) (s : ByteArray) (hs : s = ⟨(Esc.table upper).toArray⟩) (B : Nat) (v : Nat) (V : Int) (hV : V = (v : Int)) (hv : v < 2097152) (l : ByteArray) (hl : l = ⟨(Esc.uni upper v).toArray⟩) (w0 w : World) (hc : w0.cell? ⟨B, 0, none⟩ = some (.string s)) (hB : B < w0.heap.size) (hw : Below w0.heap.size w0 w) :
    Calls Tryd.prog 18 #[.int .i64 V, .pointer (some ⟨B, 0, none⟩)] w fun e w' => e = .returned (.string l) ∧ Below w0.heap.size w0 w' := by
  refine (u_any upper s hs B v V hV w hv ((hw.cell (p := ⟨B, 0, none⟩) hB).trans hc)).mono ?_
  rintro e w' ⟨he, hb⟩
  exact ⟨by rw [he, hl], hw.trans (hb.mono hw.size)⟩

theorem new_cell (w : World) (s : ByteArray) : (w.alloc (.cells #[.string s] 9)).cell? ⟨w.heap.size, 0, none⟩ = some (.string s) := by
  have h := heap_alloc_new w (.cells #[.string s] 9)
  simp only [World.cell?, h, Option.isSome_none, Bool.false_eq_true, if_false]
  rfl

theorem tab_cell (upper : Bool) (w : World) (s : ByteArray) (hs : s = ⟨(Esc.table upper).toArray⟩) : (w.alloc (.cells #[.string ⟨(Esc.table upper).toArray⟩] 9)).cell? ⟨w.heap.size, 0, none⟩ = some (.string s) := by
  rw [hs]; exact new_cell w _

theorem below_new {w w1 w2 : World} {o : Obj} (b1 : Below w.heap.size w w1) (b2 : Below (w1.alloc o).heap.size (w1.alloc o) w2) : Below w.heap.size w w2 :=
  (b1.alloc b1.size o).trans (b2.mono (b1.alloc b1.size o).size)

theorem lt_new (w : World) (o : Obj) : w.heap.size < (w.alloc o).heap.size := by simp

set_option maxRecDepth 100000 in
set_option maxHeartbeats 2000000 in
theorem walk_one (x : Int) (upper : Bool) (s : ByteArray) (hs : s = ⟨(Esc.table upper).toArray⟩) (w : World) (hT : Lib.Utf8Tabs 0 1 w) (h0 : 0 ≤ x) (h1 : x < 65536) (h2 : x < 55296 ∨ 57343 < x) :
    Calls Tryd.prog 5 #[.int .i64 x, .bool upper] w fun e w' => e = .returned (.bool true) ∧ Below w.heap.size w w' := by
  have HT := Lib.hid hT
  have HS := Lib.hid hs
  obtain ⟨v, hv⟩ : ∃ v : Nat, x = v := ⟨x.toNat, by omega⟩
  obtain ⟨l, hl⟩ : ∃ l : ByteArray, l = ⟨(Esc.uni upper v).toArray⟩ := ⟨_, rfl⟩
  have hR := fun W => Alive5.readOf l (by rw [hl]; show 6 ≤ 1000; omega) (Esc.rune x, 0) (by rw [hl, hv]; exact Esc.read_uni upper v (by omega) (by omega)) W
  have HR := Lib.hid hR
  have HU := Lib.hid (fun B w0 W hc hB hw => run_u upper s hs B v x hv (by omega) l hl w0 W hc hB hw)
  have hsz : l.size = 6 := by rw [hl]; rfl
  clear hT hs hR hl hv
  obtain ⟨O, hO⟩ : ∃ O : ByteArray, O = ⟨(Esc.rune x).toArray⟩ := ⟨_, rfl⟩
  have HN := Lib.hid (fun W => Ref.rune_any x W)
  rw [← hO] at HR HN
  clear hO
  rcases h2 with h2 | h2
  all_goals cases upper
  all_goals go_enter Tryd.func5, Tryd.ntmps5
  all_goals go_wp2_with (fail)
  all_goals refine (Alive5.any w HT.out).mono ?_
  all_goals rintro e w1 ⟨rfl, b1⟩
  all_goals go_wp2_with (fail)
  all_goals refine (HU.out w1.heap.size _ _ (tab_cell _ w1 s HS.out) (lt_new _ _) (Below.refl _ _)).mono ?_
  all_goals rintro e w2 ⟨rfl, b2'⟩
  all_goals go_wp2_with (fail)
  all_goals refine (HR.out _).mono ?_
  all_goals rintro e w3 ⟨rfl, b3⟩
  all_goals go_wp2_with (fail)
  all_goals refine (HN.out _).mono ?_
  all_goals rintro e w4 ⟨rfl, b4⟩
  all_goals have b3' := b2'.trans (b3.mono b2'.size)
  all_goals have b2 := b3'.trans (b4.mono b3'.size)
  all_goals go_wp2
  all_goals go_ret
  all_goals exact ⟨Mem.ret_bool (by simp), below_new b1 b2⟩

set_option maxRecDepth 100000 in
set_option maxHeartbeats 2000000 in
theorem walk_sole (x : Int) (upper : Bool) (s : ByteArray) (hs : s = ⟨(Esc.table upper).toArray⟩) (w : World) (hT : Lib.Utf8Tabs 0 1 w) (h0 : 55296 ≤ x) (h1 : x ≤ 57343) :
    Calls Tryd.prog 5 #[.int .i64 x, .bool upper] w fun e w' => e = .returned (.bool true) ∧ Below w.heap.size w w' := by
  have HT := Lib.hid hT
  have HS := Lib.hid hs
  obtain ⟨v, hv⟩ : ∃ v : Nat, x = v := ⟨x.toNat, by omega⟩
  obtain ⟨l, hl⟩ : ∃ l : ByteArray, l = ⟨(Esc.uni upper v).toArray⟩ := ⟨_, rfl⟩
  have hR := fun W => Alive5.readOf (l ++ ⟨#[120]⟩) (by rw [hl]; show 7 ≤ 1000; omega) ([], 9) (by rw [hl]; exact Esc.read_sole upper v (by omega) (by omega)) W
  have HR := Lib.hid hR
  have HU := Lib.hid (fun B w0 W hc hB hw => run_u upper s hs B v x hv (by omega) l hl w0 W hc hB hw)
  have hsz : l.size = 6 := by rw [hl]; rfl
  clear hT hs hR hl hv
  cases upper
  all_goals go_enter Tryd.func5, Tryd.ntmps5
  all_goals go_wp2_with (fail)
  all_goals refine (Alive5.any w HT.out).mono ?_
  all_goals rintro e w1 ⟨rfl, b1⟩
  all_goals go_wp2_with (fail)
  all_goals refine (HU.out w1.heap.size _ _ (tab_cell _ w1 s HS.out) (lt_new _ _) (Below.refl _ _)).mono ?_
  all_goals rintro e w2 ⟨rfl, b2'⟩
  all_goals go_wp2_with (fail)
  all_goals refine (HR.out _).mono ?_
  all_goals rintro e w3 ⟨rfl, b3⟩
  all_goals have b2 := b2'.trans (b3.mono b2'.size)
  all_goals go_wp2
  all_goals go_ret
  all_goals exact ⟨rfl, below_new b1 b2⟩

set_option maxRecDepth 100000 in
set_option maxHeartbeats 2000000 in
theorem walk_pair (x : Int) (upper : Bool) (s : ByteArray) (hs : s = ⟨(Esc.table upper).toArray⟩) (w : World) (hT : Lib.Utf8Tabs 0 1 w) (h0 : 65536 ≤ x) (h1 : x ≤ 1114111) :
    Calls Tryd.prog 5 #[.int .i64 x, .bool upper] w fun e w' => e = .returned (.bool true) ∧ Below w.heap.size w w' := by
  have HT := Lib.hid hT
  have HS := Lib.hid hs
  obtain ⟨v, hv⟩ : ∃ v : Nat, x = v := ⟨x.toNat, by omega⟩
  obtain ⟨m, hm⟩ : ∃ m, m = (v - 65536) % 1024 := ⟨_, rfl⟩
  obtain ⟨l1, hl1⟩ : ∃ l : ByteArray, l = ⟨(Esc.uni upper (55296 + (v - 65536) / 1024)).toArray⟩ := ⟨_, rfl⟩
  obtain ⟨l2, hl2⟩ : ∃ l : ByteArray, l = ⟨(Esc.uni upper (56320 + m)).toArray⟩ := ⟨_, rfl⟩
  have hR := fun W => Alive5.readOf (l1 ++ l2) (by rw [hl1, hl2]; show 12 ≤ 1000; omega) (Esc.rune x, 0) (by rw [hl1, hl2, hv, hm]; exact Esc.read_pair upper v (by omega) (by omega)) W
  have HR := Lib.hid hR
  have HU1 := Lib.hid (fun B w0 W hc hB hw => run_u upper s hs B (55296 + (v - 65536) / 1024) (55296 + (x - 65536) / 1024) (by omega) (by omega) l1 hl1 w0 W hc hB hw)
  have HU2 := Lib.hid (fun B w0 W hc hB hw => run_u upper s hs B (56320 + m) (56320 + (m : Int)) (by omega) (by omega) l2 hl2 w0 W hc hB hw)
  have HU0 := Lib.hid (fun B w0 W hc hB hw => run_u upper s hs B v x hv (by omega) ⟨(Esc.uni upper v).toArray⟩ rfl w0 W hc hB hw)
  have hsz1 : l1.size = 6 := by rw [hl1]; rfl
  have hsz2 : l2.size = 6 := by rw [hl2]; rfl
  have hand : bits .and .i64 (x - 65536) 1023 = (m : Int) := by
    rw [show x - 65536 = ((v - 65536 : Nat) : Int) by omega, hm]
    exact Int64.andMask (v - 65536) 10 (by omega) (by omega)
  have hm2 : (m : Int) < 1024 := by omega
  clear hT hs hR hl1 hl2 hv hm
  obtain ⟨O, hO⟩ : ∃ O : ByteArray, O = ⟨(Esc.rune x).toArray⟩ := ⟨_, rfl⟩
  have HN := Lib.hid (fun W => Ref.rune_any x W)
  rw [← hO] at HR HN
  clear hO
  cases upper
  all_goals go_enter Tryd.func5, Tryd.ntmps5
  all_goals go_wp2_with (fail)
  all_goals refine (Alive5.any w HT.out).mono ?_
  all_goals rintro e w1 ⟨rfl, b1⟩
  all_goals go_wp2_with (fail)
  all_goals refine (HU0.out w1.heap.size _ _ (tab_cell _ w1 s HS.out) (lt_new _ _) (Below.refl _ _)).mono ?_
  all_goals rintro e w0 ⟨rfl, b0'⟩
  all_goals go_wp2_with (fail)
  all_goals refine (HU1.out w1.heap.size _ _ (tab_cell _ w1 s HS.out) (lt_new _ _) b0').mono ?_
  all_goals rintro e w2 ⟨rfl, b2'⟩
  all_goals go_wp2_with (fail)
  all_goals refine (HU2.out w1.heap.size _ _ (tab_cell _ w1 s HS.out) (lt_new _ _) b2').mono ?_
  all_goals rintro e w3 ⟨rfl, b3'⟩
  all_goals go_wp2_with (fail)
  all_goals refine (HR.out _).mono ?_
  all_goals rintro e w4 ⟨rfl, b4⟩
  all_goals go_wp2_with (fail)
  all_goals refine (HN.out _).mono ?_
  all_goals rintro e w5 ⟨rfl, b5⟩
  all_goals have b4' := b3'.trans (b4.mono b3'.size)
  all_goals have b2 := b4'.trans (b5.mono b4'.size)
  all_goals go_wp2
  all_goals go_ret
  all_goals exact ⟨Mem.ret_bool (by simp), below_new b1 b2⟩

theorem walk (a0 : Int) (a1 : Bool) (_w0 : (Lit.int .i64 a0).wf = true) (w : World) (hT : Lib.Utf8Tabs 0 1 w) :
    Calls Tryd.prog 5 #[.int .i64 a0, .bool a1] w fun e w' => e = .returned (.bool true) ∧ Below w.heap.size w w' := by
  by_cases h1 : a0 < 0 ∨ 1114111 < a0
  · have HT := Lib.hid hT
    clear hT
    rcases h1 with h1 | h1
    all_goals go_enter Tryd.func5, Tryd.ntmps5
    all_goals go_wp2_with (fail)
    all_goals refine (Alive5.any w HT.out).mono ?_
    all_goals rintro e w1 ⟨rfl, b1⟩
    all_goals go_wp2
    all_goals go_ret
    all_goals exact ⟨rfl, b1⟩
  by_cases h2 : 55296 ≤ a0 ∧ a0 ≤ 57343
  · exact walk_sole a0 a1 _ rfl w hT h2.1 h2.2
  by_cases h3 : a0 < 65536
  · exact walk_one a0 a1 _ rfl w hT (by omega) h3 (by omega)
  · exact walk_pair a0 a1 _ rfl w hT (by omega) (by omega)
end Go.Proofs.YtnpbleaikdpjiaaDoor.escapePairs
