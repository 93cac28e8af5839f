/- Append of a slice of many-celled elements to no slice at all: a copy. -/
import Derived.Test.YtopaadmnlghdaaaDoorSlk
namespace Go.Proofs.YtopaadmnlghdaaaDoor
open Go.RowKit
namespace Own
section
variable {P : Program} {w : World} {k : Nat} {e : TypeId} {n : Nat} {xs : List Value} {v : Value} {h : Heap}

theorem run_append_nought (t ty : TypeId) (i : TypeInfo) (ht : P.underlying t = some (.slice e)) (hi : P.info? e = some i) (a : Option Addr) (c : Nat) :
    (Builtin.append_ #[t, t] ty #[.slice none 0 0, .slice a 0 c]).run P w = .ok (.slice none 0 0) w := by
  have hl : ∀ (b : Option Addr) (c : Nat) (u : World), (Builtin.lenOf (.slice b 0 c)).run P u = .ok 0 u := fun _ _ _ => rfl
  have hf : ∀ (b : Option Addr) (c : Nat) (u : World), (Builtin.firstCells i.size 0 (.slice b 0 c)).run P u = .ok #[] u := by
    intro b c u
    cases b <;> simp [Builtin.firstCells, loadCells, loadCellsFrom]
  cases a <;> simp [Builtin.append_, run_underlying ht, sizeOf, typeInfo, hi, hl, hf]

theorem run_append_copy (t ty : TypeId) (i : TypeInfo) (z : Value) (bytes : Nat) (ht : P.underlying t = some (.slice e)) (hi : P.info? e = some i) (hz : i.zero = some z)
    (hsize : i.size = k) (hby : i.bytes = bytes) (hzs : z.cells.size = k) (s : Slk k e n xs v h) (hw : Has w h) (h1 : ∀ u ∈ xs, u.oneCell' = true) (hbytes : n * bytes ≤ 140737488355328) :
    ∃ v' h' w', (Builtin.append_ #[t, t] ty #[.slice none 0 0, v]).run P w = .ok v' w' ∧ Slk k e n xs v' h' ∧ Turn h (h' ++ h) w w' := by
  rcases Nat.eq_zero_or_pos n with h0 | h0
  · subst h0
    obtain ⟨a, c, rfl⟩ := s.len
    have hx : xs = [] := by have := s.cells; rw [Nat.zero_mul] at this; exact List.eq_nil_of_length_eq_zero this
    exact ⟨_, [], w, run_append_nought t ty i ht hi a c, .bare none rfl hx, Turn.refl hw⟩
  · have hxl := s.cells
    have hle := s.le
    obtain ⟨b, m, spare, rfl, rfl, hs, hm⟩ := s.at_ h0
    obtain ⟨v', h', w', hr, s', t'⟩ := run_append_slk (P := P) (w := w) (k := k) (e := e) (n := 0) (xs := []) (v := .slice none 0 0) (h := []) t ty i z bytes ht hi hz hsize hby hzs (.bare none rfl rfl) (Has.nil w)
      ⟨b, 0, none⟩ (n + m) n xs hxl (fun j u hj => by
        rw [Addr.add_lit, Nat.zero_add]
        exact hw.cell b _ _ (List.mem_singleton.2 rfl) j u (by rw [List.getElem?_append_left (List.getElem?_eq_some_iff.1 hj).1]; exact hj)) h1 h0 (by omega) (by rw [Nat.zero_add]; exact hbytes)
    rw [Nat.zero_add, List.nil_append] at s'
    exact ⟨v', h', w', hr, s', t'.frame hw⟩

theorem wpList_append_copy {ops : Array Oper} {rest : List Oper} {o : Oper} {a : Act} {Q : Exit → Act → World → Prop} (hgd : o.guard = none) (x : Operand) (t : TypeId)
    (ho : o.op = .call { callee := .builtin .append, args := #[.const (.slice none 0 0), x], argTypes := #[t, t] })
    (e : TypeId) (i : TypeInfo) (z : Value) (k bytes : Nat) (ht : P.underlying t = some (.slice e)) (hi : P.info? e = some i) (hz : i.zero = some z)
    (hsize : i.size = k) (hby : i.bytes = bytes) (hzs : z.cells.size = k)
    (v : Value) (n : Nat) (xs : List Value) (h : Heap) (hx : a.eval x = v) (hv : Slk k e n xs v h) (hw : Has w h) (h1 : ∀ u ∈ xs, u.oneCell' = true) (hbytes : n * bytes ≤ 140737488355328)
    (hK : ∀ ad' c' h' w', Slk k e n xs (.slice ad' n c') h' → Turn h (h' ++ h) w w' → wpList P ops Q rest (a.put o.dst (.slice ad' n c')) w') :
    wpList P ops Q (o :: rest) a w := by
  refine wpList_plain hgd fun K hK' => ?_
  obtain ⟨v', h', w', hr, h2, h3⟩ := run_append_copy (P := P) t o.type i z bytes ht hi hz hsize hby hzs hv hw h1 hbytes
  obtain ⟨ad', c', rfl⟩ := h2.len
  have he : a.eval (.const (.slice none 0 0)) = .slice none 0 0 := rfl
  unfold Oper.wp execOp
  simp only [ho, resolve, invoke, builtin, Sem.run_bind, Sem.run_pure, Result.andThen_ok, List.map_toArray, List.map_cons, List.map_nil, he, hx, hr]
  exact hK' _ _ (hK _ _ _ _ h2 h3)

theorem step_append_copy {ops : Array Oper} {o : Oper} {a : Act} {K : Act → World → Prop} {Q : Exit → Act → World → Prop} {E : Prop}
    (hg : o.guard = none) (x : Operand) (t : TypeId) (hop : o.op = Op.call { callee := Callee.builtin Builtin.append, args := #[.const (.slice none 0 0), x], argTypes := #[t, t] })
    (e : TypeId) (i : TypeInfo) (z : Value) (k bytes : Nat) (ht : P.underlying t = some (.slice e)) (hi : P.info? e = some i) (hz : i.zero = some z)
    (hsize : i.size = k) (hby : i.bytes = bytes) (hzs : z.cells.size = k)
    (v : Value) (n : Nat) (xs : List Value) (h : Heap) (hx : a.eval x = v) (hv : Slk k e n xs v h) (hw : Has w h) (h1 : ∀ u ∈ xs, u.oneCell' = true) (hbytes : n * bytes ≤ 140737488355328)
    (hK : ∀ ad' c' h' w', Slk k e n xs (.slice ad' n c') h' → Turn h (h' ++ h) w w' → K (a.put o.dst (.slice ad' n c')) w') :
    if Region.wanted o (yielded ops a.tmps) = true then Oper.wp P o a w K Q else E := by
  have hwd : Region.wanted o (yielded ops a.tmps) = true := by simp [Region.wanted, hg]
  rw [if_pos hwd]
  obtain ⟨v', h', w', hr, h2, h3⟩ := run_append_copy (P := P) t o.type i z bytes ht hi hz hsize hby hzs hv hw h1 hbytes
  obtain ⟨ad', c', rfl⟩ := h2.len
  have he : a.eval (.const (.slice none 0 0)) = .slice none 0 0 := rfl
  unfold Oper.wp
  simp [execOp, hop, resolve, invoke, builtin, he, hx, hr, Result.andThen]
  exact hK _ _ _ _ h2 h3
end
end Own
end Go.Proofs.YtopaadmnlghdaaaDoor
