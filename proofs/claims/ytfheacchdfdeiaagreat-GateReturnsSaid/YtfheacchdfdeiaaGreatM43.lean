/- Texts of the walk, joined. -/
import Derived.Test.YtfheacchdfdeiaaGreatM42
import Derived.KernelRfl
set_option maxRecDepth 100000
set_option maxHeartbeats 8000000
namespace Go.Proofs.YtfheacchdfdeiaaGreat
section
namespace Ses
open Pip
open Json (Part)
def Told (s:St):Prop:=s.told=true -> right s.setup=true
theorem Told.new:Told St.new:=fun h=>by cases h
theorem aB9 {s:St} (h:Told s) (b:List UInt8) (r:Int):Told (s.feed b r):=h
theorem xM {s:St} (h:Told s):Told s.gW:=by unfold St.gW;split <;> exact h
theorem rS (text:Part -> List UInt8) {s:St} (h:Told s):Told (s.once text):=by
 unfold St.once;split
 ·exact h
 ·exact h
 ·unfold St.byte
  simp only;split
  ·exact h
  ·exact h
 ·unfold St.gZ
  simp only;split
  ·exact h
  ·rename_i l hi ht _
   split
   ·rename_i h0
    intro _;exact (pT _ h0).2.1
   ·exact h
 ·exact h
theorem aBn (text:Part -> List UInt8) (may:Option (Int -> Bool)) {s:St} (h:Told s):Told (s.jP text may):=by
 unfold St.jP;split
 ·exact rS text h
 ·exact rS text h
theorem oF (text:Part -> List UInt8) (may:Option (Int -> Bool)):∀ (k:Nat) (s:St),Told s -> Told (s.run text may k).1
 | 0,_,h=>h
 | k + 1,s,h=>by
  unfold St.run
  split
  ·exact oF text may k _ (aBn text may h)
  ·exact h
theorem aBt (text:Part -> List UInt8) (f:Int -> Bool) (hf:∀ a b:Nat,a <= b -> f (b:Int)=true -> f (a:Int)=true) (s:St) (hr:s.ready=true) (h:f (s.aN:Int)=true):f ((s.jP text (some f)).aN:Int)=true:=by
 cases hx:f ((s.once text).aN:Int) with
 | true=>rw [wJ text _ s hx];exact hx
 | false =>
  rw [aA1 text _ s hx,mK];refine hf _ _ ?_ h;rw [sS (gV hr)];have:(List.take s.out.length (s.once text).out).length <= s.out.length:=by rw [List.length_take];omega
  simp only at *
  omega
theorem xD (text:Part -> List UInt8) (f:Int -> Bool) (hf:∀ a b:Nat,a <= b -> f (b:Int)=true -> f (a:Int)=true):∀ (k:Nat) (s:St),f (s.aN:Int)=true -> f ((s.run text (some f) k).1.aN:Int)=true
 | 0,_,h=>h
 | k + 1,s,h=>by
  unfold St.run
  split
  ·rename_i hr
   exact xD text f hf k _ (aBt text f hf s hr h)
  ·exact h
def calm (text:Part -> List UInt8) (M:Nat):Nat -> St -> Bool
 | 0,_=>true
 | k + 1,s=>if s.ready=true then decide ((s.once text).aN <= M) && calm text M k (s.once text) else true
def rset:Setup:=⟨1,1,1,0,0⟩
def blanks:List UInt8:=cA rset ++ List.replicate 56 32
def rst (text:Part -> List UInt8) (b:List UInt8):Nat -> St
 | 0=>fresh b
 | r + 1=>((rst text b r).run text none 16).1
def rok (text:Part -> List UInt8) (b:List UInt8) (n r:Nat):Bool :=
 calm text 700 16 (rst text b r) && ((rst text b r).run text none 16).2 == min 16 (n - 16 * r) && (rst text b r).ready == decide (16 * r < n) && decide ((rst text b r).aN <= 700)
structure Rok (text:Part -> List UInt8) (b:List UInt8) (n r:Nat):Prop where
 calm:calm text 700 16 (rst text b r)=true
 many:((rst text b r).run text none 16).2=min 16 (n - 16 * r)
 ready:(rst text b r).ready=decide (16 * r < n)
 aN:(rst text b r).aN <= 700
def tset:Setup:=⟨1,1,9,0,0⟩
def opens:List UInt8:=(cA tset ++ (List.replicate 12 32 ++ (91 :: List.replicate 45 32))).take 64
end Ses
end
section
namespace Gr
def upd (r:Nat -> Nat) (i x:Nat):Nat -> Nat:=fun j=>if j=i then x else r j
def tot (f:Nat -> Nat) (r:Nat -> Nat):Nat -> Nat
 | 0=>0
 | n + 1=>tot f r n + f (r n)
def had (n t:Nat) (j:Nat):Nat:=if j < t % n then t / n + 1 else t / n
def Row (n t:Nat) (l:List Nat):Prop:=l.length=n /\ ∀ j,j < n -> l[j]? = some ((t + j) % n)
end Gr
end
end Go.Proofs.YtfheacchdfdeiaaGreat
