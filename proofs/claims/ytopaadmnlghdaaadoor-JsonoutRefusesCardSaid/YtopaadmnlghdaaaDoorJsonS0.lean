/- The reference's writer: a part that opens, or is plain (written by gen_rstep.py). -/
import Derived.Test.YtopaadmnlghdaaaDoorJsonR
namespace Go.Proofs.YtopaadmnlghdaaaDoor
open Go.RowKit
namespace Json

/-- What is written of a part itself. -/
def Part.own : Part → List UInt8
  | .begins m _ => [if m then 123 else 91]
  | p => text p

theorem Evt.part_begin (e : Evt) (p : Part) (h : e.part = some p) : (e.kind == 5) = (p.isBegin && !(p.own == [123])) ∧ (e.kind == 6) = (p.isBegin && (p.own == [123])) := by
  unfold Evt.part at h
  repeat' split at h
  all_goals first
    | (injection h with h; subst h; simp_all [Part.isBegin, Part.own]; done)
    | cases h
end Json
end Go.Proofs.YtopaadmnlghdaaaDoor
