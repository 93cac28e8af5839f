/- Texts of the walk, joined: HelO. -/
import Derived.Test.YthnbpnfaghjamaaGreatM26
import Derived.ChangeArms
import Derived.Deep.Slices
import Derived.WideShapes
/- A setup as an argument: what a reading says of its cells; hello.Put of whatever setup. -/
namespace Go.Proofs.YthnbpnfaghjamaaGreat
open Go.RowKit Go.ChangeShapes Go.WideShapes Go.Deep
namespace Pip

def Setup.vals (s : Setup) : List Value := [.int .i64 s.from_, .int .i64 s.to, .int .i64 s.depth, .int .i64 s.stage, .int .i64 s.limit]

/-- Each field is what its type has. -/
structure Setup.Fine (s : Setup) : Prop where
  from_ : -9223372036854775808 ≤ s.from_ ∧ s.from_ ≤ 9223372036854775807
  to : -9223372036854775808 ≤ s.to ∧ s.to ≤ 9223372036854775807
  depth : -9223372036854775808 ≤ s.depth ∧ s.depth ≤ 9223372036854775807
  stage : -9223372036854775808 ≤ s.stage ∧ s.stage ≤ 9223372036854775807
  limit : -9223372036854775808 ≤ s.limit ∧ s.limit ≤ 9223372036854775807

theorem wf64 {z : Int} (h : (Lit.int .i64 z).wf = true) : -9223372036854775808 ≤ z ∧ z ≤ 9223372036854775807 := by
  have h' : (decide ((-9223372036854775808 : Int) ≤ z) && decide (z ≤ (9223372036854775807 : Int))) = true := h
  simpa using h'

theorem kInt : Tryz.prog.cellsOf 3 = 1 := by kernel_rfl
theorem kSetup : Tryz.prog.cellsOf 23 = 5 := by kernel_rfl

section
variable {H : Type} {enc : TypeId × Value → H} {w : World} {base : Nat} {sp : Nat → Bool} {held : Bool}

set_option maxRecDepth 100000 in
theorem setup_of {fuel : Nat} {cs : List Value} {x : DataW H × List MemPlace} (h : DataW.trod enc Tryz.prog w base sp held fuel 23 cs = some x) : ∃ s : Setup, cs = s.vals ∧ s.Fine := by
  obtain ⟨xs, n, _, _, hl, hxl, hall⟩ := DataW.trod_struct Tryz.underlying23 h
  rw [kSetup] at hl
  match cs, hl with
  | [c0, c1, c2, c3, c4], _ =>
    match xs, hxl with
    | [y0, y1, y2, y3, y4], _ =>
      have g0 : DataW.trod enc Tryz.prog w base sp held n 3 (([c0, c1, c2, c3, c4].drop 0).take (Tryz.prog.cellsOf 3)) = some y0 := hall 0 _ rfl
      have g1 : DataW.trod enc Tryz.prog w base sp held n 3 (([c0, c1, c2, c3, c4].drop 1).take (Tryz.prog.cellsOf 3)) = some y1 := hall 1 _ rfl
      have g2 : DataW.trod enc Tryz.prog w base sp held n 3 (([c0, c1, c2, c3, c4].drop 2).take (Tryz.prog.cellsOf 3)) = some y2 := hall 2 _ rfl
      have g3 : DataW.trod enc Tryz.prog w base sp held n 3 (([c0, c1, c2, c3, c4].drop 3).take (Tryz.prog.cellsOf 3)) = some y3 := hall 3 _ rfl
      have g4 : DataW.trod enc Tryz.prog w base sp held n 3 (([c0, c1, c2, c3, c4].drop 4).take (Tryz.prog.cellsOf 3)) = some y4 := hall 4 _ rfl
      rw [kInt] at g0 g1 g2 g3 g4
      obtain ⟨z0, e0, _, w0⟩ := DataW.trod_int Tryz.underlying3 g0
      obtain ⟨z1, e1, _, w1⟩ := DataW.trod_int Tryz.underlying3 g1
      obtain ⟨z2, e2, _, w2⟩ := DataW.trod_int Tryz.underlying3 g2
      obtain ⟨z3, e3, _, w3⟩ := DataW.trod_int Tryz.underlying3 g3
      obtain ⟨z4, e4, _, w4⟩ := DataW.trod_int Tryz.underlying3 g4
      simp only [List.drop_zero, List.drop_succ_cons, List.take_succ_cons, List.take_zero, List.cons.injEq, and_true] at e0 e1 e2 e3 e4
      subst e0 e1 e2 e3 e4
      exact ⟨⟨z0, z1, z2, z3, z4⟩, rfl, ⟨wf64 w0, wf64 w1, wf64 w2, wf64 w3, wf64 w4⟩⟩

set_option maxRecDepth 100000 in
/-- A setup that is handed in. -/
theorem open_setup {r : Reach} {b0 : Nat} {v : Value} {d : DataW H} {p : List MemPlace} (hv : Value.okWide Tryz.prog w r b0 23 v) (h : DataW.Trod enc Tryz.prog w base sp held 23 v d p) : ∃ s : Setup, v = s.val ∧ s.Fine := by
  obtain ⟨cs, rfl, _⟩ := okWide_struct Tryz.underlying23 hv
  obtain ⟨fuel, hf⟩ := h
  obtain ⟨s, hs, hf⟩ := setup_of hf
  refine ⟨s, ?_, hf⟩
  show Value.agg cs = .agg s.vals.toArray
  congr 1
  apply Array.toList_inj.1
  simpa [Value.cells] using hs
end

/-- hello.Put, whatever the setup. -/
def putBytes (s : Setup) : ByteArray := if right s = true then ⟨(helloBytes s).toArray⟩ else ⟨#[]⟩

theorem hput_all (s : Setup) (w : World) : Calls Tryz.prog 26 #[s.val] w fun e w' => e = .returned (.tuple #[.string (putBytes s), .bool (right s)]) ∧ Below w.heap.size w w' := by
  unfold putBytes
  cases h : right s with
  | true => rw [if_pos rfl]; exact hput_any s h w
  | false => rw [if_neg (by decide)]; exact hput_none s h w

theorem putBytes_right {s : Setup} (h : right s = true) : putBytes s = ⟨(helloBytes s).toArray⟩ := if_pos h
end Pip
end Go.Proofs.YthnbpnfaghjamaaGreat
