/- Texts of the walk, joined. -/
import Derived.Test.YtfheacchdfdeiaaGreatM40
import Derived.Test.YtfheacchdfdeiaaGreatM43
set_option maxRecDepth 100000
set_option maxHeartbeats 8000000
namespace Go.Proofs.YtfheacchdfdeiaaGreat
section
open Go.RowKit
namespace Gate
structure Fed (n:Nat) (S:Se) (i:Nat) (g:Ga):Prop where
 num:g.n=n
 at_:∀ j,j < n -> g.slots[j]? = some (if j < i then some S else none)
 many:g.many=i
 turns:g.turns=List.range i
 rest:g.pu.rest=40000 - n * 700
 ids:∀ j,j < i -> g.ids[j]? = some (j + n * j)
 now:g.now=0
theorem Fed.first {n i:Nat} {S:Se} {g:Ga} (f:Fed n S i g) (hi:i < n):g.slots[i]? = some none /\ ∀ j,j < i -> g.slots[j]? ≠ some none:=by
 refine ⟨?_,fun j hj=>?_⟩
 ·rw [f.at_ i hi,if_neg (Nat.lt_irrefl _)]
 ·rw [f.at_ j (by omega),if_pos hj];intro h;cases h
theorem Fed.step {n i c:Nat} {S:Se} {g g':Ga} (f:Fed n S i g) (hi:i < n) (hl:g.slots.length=g.n) (hd:g.ids.length=g.n) (hs:g'.slots=(g.cH i c).slots.set i (some S)) (k:(g.cH i c).aF1 g'):Fed n S (i + 1) g':=by
 have hsl:g'.slots=g.slots.set i (some S):=by
  rw [hs];show (g.slots.set i (some Ses.St.new)).set i (some S)=_;rw [List.set_set]
 refine ⟨k.n.trans f.num,fun j hj=>?_,?_,?_,k.rest.trans f.rest,fun j hj=>?_,k.now.trans f.now⟩
 ·rw [hsl]
  by_cases hij:i=j
  ·subst hij
   rw [List.getElem?_set_self (by rw [hl,f.num];exact hi),if_pos (Nat.lt_succ_self _)]
  ·rw [List.getElem?_set_ne hij,f.at_ j hj]
   by_cases h2:j < i
   ·rw [if_pos h2,if_pos (by omega)]
   ·rw [if_neg h2,if_neg (by omega)]
 ·rw [k.many];show g.many + 1=_;rw [f.many]
 ·rw [k.turns];show g.turns ++ [i]=_;rw [f.turns,List.range_succ]
 ·rw [k.ids]
  show (g.ids.set i (i + g.n * g.many))[j]? = _;by_cases hij:i=j
  ·subst hij
   rw [List.getElem?_set_self (by rw [hd,f.num];exact hi),f.num,f.many]
  ·rw [List.getElem?_set_ne hij]
   exact f.ids j (by omega)
theorem Fed.new (n:Nat) (S:Se):Fed n S 0 (Ga.new 40000 n) where
 num:=rfl
 at_:=fun j hj=>by
  show (List.replicate n none)[j]? = _
  rw [List.getElem?_replicate,if_pos hj,if_neg (Nat.not_lt_zero _)]
 many:=rfl
 turns:=rfl
 rest:=rfl
 ids:=fun j hj=>by omega
 now:=rfl
end Gate
end
end Go.Proofs.YtfheacchdfdeiaaGreat
