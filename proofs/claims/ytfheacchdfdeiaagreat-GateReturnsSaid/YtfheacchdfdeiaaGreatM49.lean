/- Texts of the walk, joined. -/
import Derived.Test.YtfheacchdfdeiaaGreatM42
import Derived.Test.YtfheacchdfdeiaaGreatM43
import Derived.Test.YtfheacchdfdeiaaGreatM45
import Derived.Test.YtfheacchdfdeiaaGreatM46
import Derived.Test.YtfheacchdfdeiaaGreatM48
set_option maxRecDepth 100000
set_option maxHeartbeats 8000000
namespace Go.Proofs.YtfheacchdfdeiaaGreat
section
open Go.RowKit
namespace Gate
structure Lv (n i0:Nat) (g:Ga):Prop where
 num:g.n=n
 free:∀ j,j < i0 -> j < n -> g.slots[j]? = some none
 live:∀ j,i0 <= j -> j < n -> ∃ s,g.slots[j]? = some (some s) /\ Ses.Told s /\ Ses.jW s
 ids:∀ j,j < n -> g.ids[j]? = some (j + n * j)
theorem Fed.aI1 {n i c:Nat} {g:Ga} (f:Fed n Ses.St.new i g) (hi:i < n) (hl:g.slots.length=g.n) (hd:g.ids.length=g.n):Fed n Ses.St.new (i + 1) (g.cH i c):=by
 refine f.step (c:=c) hi hl hd (g':=g.cH i c) ?_ ⟨rfl,rfl,rfl,rfl,rfl,rfl⟩;show g.slots.set i _=(g.slots.set i _).set i _;rw [List.set_set]
theorem Fed.lv {n:Nat} {g:Ga} (f:Fed n Ses.St.new n g):Lv n 0 g :=
 ⟨f.num,fun j hj=>by omega,fun j _ hj=>⟨Ses.St.new,by rw [f.at_ j hj,if_pos hj],Ses.Told.new,fun h=>by cases h⟩,f.ids⟩
theorem Lv.find {n i0:Nat} {g:Ga} (L:Lv n i0 g) (y:Nat) (hy:y < n) (s:Se) (hs:g.slots[y]? = some (some s)):g.find ((y + n * y:Nat):Int)=some y:=by
 have hm:(y + n * y) % n=y:=by rw [Nat.add_mul_mod_self_left,Nat.mod_eq_of_lt hy]
 unfold Ga.find;rw [if_neg (by omega)];simp only [Int.toNat_natCast,L.num,hm,hs,L.ids y hy,if_true]
theorem Lv.aIf {n i0:Nat} {g:Ga} (L:Lv n i0 g) (y:Nat) (hy:y < n) (hs:g.slots[y]? = some none):g.find ((y + n * y:Nat):Int)=none:=by
 have hm:(y + n * y) % n=y:=by rw [Nat.add_mul_mod_self_left,Nat.mod_eq_of_lt hy]
 unfold Ga.find;rw [if_neg (by omega)];simp only [Int.toNat_natCast,L.num,hm,hs]
theorem Lv.put {n i0:Nat} {g g':Ga} (L:Lv n i0 g) (y:Nat) (t:Se) (ht:Ses.Told t) (hl:Ses.jW t) (hy0:i0 <= y) (hy:y < g.slots.length) (hs:g'.slots=g.slots.set y (some t)) (hn:g'.n=g.n) (hids:g'.ids=g.ids):Lv n i0 g':=by
 refine ⟨hn.trans L.num,fun j hj hjn=>?_,fun j hj hjn=>?_,fun j hj=>by rw [hids];exact L.ids j hj⟩
 ·rw [hs,List.getElem?_set_ne (by omega)]
  exact L.free j hj hjn
 ·by_cases hjy:y=j
  ·subst hjy
   exact ⟨t,by rw [hs,List.getElem?_set_self hy],ht,hl⟩
  ·obtain ⟨s,h1,h2,h3⟩:=L.live j hj hjn
   exact ⟨s,by rw [hs,List.getElem?_set_ne hjy];exact h1,h2,h3⟩
theorem Lv.gone {n i:Nat} {g g':Ga} (L:Lv n i g) (hi:i < g.slots.length) (hs:g'.slots=g.slots.set i none) (hn:g'.n=g.n) (hids:g'.ids=g.ids):Lv n (i + 1) g':=by
 refine ⟨hn.trans L.num,fun j hj hjn=>?_,fun j hj hjn=>?_,fun j hj=>by rw [hids];exact L.ids j hj⟩
 ·rw [hs]
  by_cases hji:i=j
  ·subst hji;rw [List.getElem?_set_self hi]
  ·rw [List.getElem?_set_ne hji];exact L.free j (by omega) hjn
 ·obtain ⟨s,h1,h2,h3⟩:=L.live j (by omega) hjn
  exact ⟨s,by rw [hs,List.getElem?_set_ne (by omega)];exact h1,h2,h3⟩
theorem aAp {n i0:Nat} {g:Ga} (L:Lv n i0 g) (hi:i0 <= n):∀ j,j <= n -> (g.cU j).length=j - i0
 | 0,_=>by simp [Ga.cU]
 | j + 1,h=>by
  show (g.cU j ++ _).length=_
  rw [List.length_append,aAp L hi j (by omega)]
  by_cases hj:j < i0
  ·rw [L.free j hj (by omega)]
   simp
   omega
  ·obtain ⟨s,h1,_⟩:=L.live j (by omega) (by omega)
   rw [h1]
   simp
   omega
theorem aAi {n i0:Nat} {g:Ga} (L:Lv n i0 g) (hi:i0 <= n):g.live.length=n - i0:=by
 show (g.cU g.n).length=_;rw [L.num];exact aAp L hi n (Nat.le_refl _)
theorem xV {T:Esc.bI} {N n:Nat} {g:Ga} (L:Lv n n g) (o:g.Ok T N):g.pu.has.sum=0:=by
 rw [o.has];have h1:g.slots.map chargeO=List.replicate g.slots.length 0:=by
  apply List.ext_getElem?;intro j;rw [List.getElem?_map,List.getElem?_replicate];by_cases hj:j < g.slots.length
  ·rw [if_pos hj,L.free j (by rw [<- L.num,<- o.len];exact hj) (by rw [<- L.num,<- o.len];exact hj)]
   rfl
  ·rw [if_neg hj,List.getElem?_eq_none (by omega)]
   rfl
 rw [h1,List.sum_replicate_nat];simp
theorem aC9 {s:Se} (h:Ses.jW s) (b:List UInt8) (r:Int):Ses.jW (s.feed b r):=h
theorem aAd {s:Se} (h:Ses.jW s):Ses.jW s.gW:=by unfold Ses.St.gW;split <;> exact h
theorem sH {s:Se} (h:Ses.jW s) (e:Nat):Ses.jW (s.halt e):=by
 unfold Ses.St.halt;split
 ·exact h
 ·exact Ses.fQ _ _ _
theorem aBc {s:Se} (h:Ses.Told s) (e:Nat):Ses.Told (s.halt e):=by
 unfold Ses.St.halt;split <;> exact h
theorem oS (s:Se) (e:Nat):(s.halt e).ended=true:=by
 unfold Ses.St.halt;split
 ·assumption
 ·rfl
theorem aGp {s:Se} (h:Ses.jW s) (he:s.ended=true):s.out ≠ []:=by
 obtain ⟨pre,x,e⟩:=h he;rw [e];simp
theorem Lv.next {n i0:Nat} {g:Ga} (L:Lv n i0 g) (hl:g.slots.length=g.n) (i:Nat) (hn:g.next=some i):i < n /\ ∃ s,g.slots[i]? = some (some s):=by
 have h1:g.dW i=true:=List.find?_some hn;unfold Ga.dW at h1
 cases hs:g.slots[i]? with
 | none=>rw [hs] at h1;cases h1
 | some o =>
  cases o with
  | none=>rw [hs] at h1;cases h1
  | some s=>exact ⟨by rw [<- L.num,<- hl];exact (List.getElem?_eq_some_iff.1 hs).1,s,rfl⟩
theorem aEu {T:Esc.bI} {N:Nat} {g g':Ga} (o:g.Ok T N) (o':g'.Ok T N) (y:Nat) (s t:Se) (hs:g.slots[y]? = some (some s)) (hs':g'.slots=g.slots.set y (some t)) (h:t.aN <= s.aN):g'.pu.has.sum <= g.pu.has.sum:=by
 rw [o.has,o'.has,hs',List.map_set];have hy:y < (g.slots.map chargeO).length:=by rw [List.length_map];exact (List.getElem?_eq_some_iff.1 hs).1
 have h1:=Purse.tZ (g.slots.map chargeO) y t.aN hy;have h2:(g.slots.map chargeO)[y]'hy=s.aN:=by
  have:(g.slots.map chargeO)[y]? = some s.aN:=by rw [List.getElem?_map,hs];rfl
  rw [List.getElem?_eq_getElem hy] at this;exact Option.some.inj this
 rw [h2] at h1;show ((g.slots.map chargeO).set y t.aN).sum <= _;omega
end Gate
end
end Go.Proofs.YtfheacchdfdeiaaGreat
