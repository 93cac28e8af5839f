/- Texts of the walk, joined. -/
import Derived.Test.YtcjflgmcjfcodaaGreatM00
import Derived.Below
import Derived.Laws.MakeOwn
set_option maxRecDepth 100000
set_option maxHeartbeats 8000000
namespace Go.Proofs.Tryz end Go.Proofs.Tryz
namespace Go.Proofs.YtcjflgmcjfcodaaGreat
open Go.Proofs.Tryz
section
open Go.RowKit
namespace Own
abbrev Heap:=List (Nat × Obj)
abbrev row (b:Nat) (T:TypeId) (l:List Value):Nat × Obj:=(b,.cells l.toArray T (0,0))
abbrev blocks (h:Heap):List Nat:=h.map Prod.fst
structure Has (w:World) (h:Heap):Prop where
 here:∀ p ∈ h,w.heap[p.1]? = some p.2
 once:(blocks h).Nodup
structure zK (F:List Nat) (w w':World):Prop where
 os:w'.os=w.os
 tape:w'.tape=w.tape
 output:w'.output=w.output
 size:w.heap.size <= w'.heap.size
 block:∀ k,k < w.heap.size -> k ∉ F -> w'.heap[k]? = w.heap[k]?
structure aA (h h':Heap) (w w':World):Prop where
 has:Has w' h'
 keeps:zK (blocks h) w w'
 new:∀ b ∈ blocks h',b ∈ blocks h \/ w.heap.size <= b
theorem Has.lt {w:World} {h:Heap} (k:Has w h) {b:Nat} (hb:b ∈ blocks h):b < w.heap.size:=by
 obtain ⟨p,hp,rfl⟩:=List.mem_map.1 hb;exact (Array.getElem?_eq_some_iff.1 (k.here p hp)).1
theorem Has.perm {w:World} {h h':Heap} (k:Has w h) (p:h.Perm h'):Has w h' :=
 ⟨fun q hq=>k.here q (p.mem_iff.2 hq),(p.map Prod.fst).nodup_iff.1 k.once⟩
theorem Has.nil (w:World):Has w []:=⟨fun _ h=>by simp at h,by simp⟩
theorem Has.append {w:World} {a b:Heap}:Has w (a ++ b) ↔ Has w a /\ Has w b /\ ∀ x ∈ blocks a,x ∉ blocks b:=by
 constructor
 ·intro h
  have hn:=h.once;rw [blocks,List.map_append] at hn;have:=List.nodup_append.1 hn;exact ⟨⟨fun p hp=>h.here p (List.mem_append_left _ hp),this.1⟩,⟨fun p hp=>h.here p (List.mem_append_right _ hp),this.2.1⟩,fun x hx hy=>this.2.2 x hx x hy rfl⟩
 ·rintro ⟨h1,h2,h3⟩
  refine ⟨fun p hp=>(List.mem_append.1 hp).elim (h1.here p) (h2.here p),?_⟩;rw [blocks,List.map_append];exact List.nodup_append.2 ⟨h1.once,h2.once,fun x hx y hy e=>h3 x hx (e ▸ hy)⟩
theorem Has.left {w:World} {a b:Heap} (h:Has w (a ++ b)):Has w a:=(Has.append.1 h).1
theorem Has.right {w:World} {a b:Heap} (h:Has w (a ++ b)):Has w b:=(Has.append.1 h).2.1
theorem Has.swap {w:World} {a b:Heap} (h:Has w (a ++ b)):Has w (b ++ a):=h.perm List.perm_append_comm
theorem zK.refl (F:List Nat) (w:World):zK F w w:=⟨rfl,rfl,rfl,Nat.le_refl _,fun _ _ _=>rfl⟩
theorem Has.kept {w w':World} {h:Heap} {F:List Nat} (k:Has w h) (hk:zK F w w') (hd:∀ b ∈ blocks h,b ∉ F):Has w' h :=
 ⟨fun p hp=>(hk.block p.1 (k.lt (List.mem_map_of_mem hp)) (hd _ (List.mem_map_of_mem hp))).trans (k.here p hp),k.once⟩
theorem Has.below {w w':World} {h:Heap} (k:Has w h) (hb:Below w.heap.size w w'):Has w' h :=
 ⟨fun p hp=>(hb.block p.1 (k.lt (List.mem_map_of_mem hp))).trans (k.here p hp),k.once⟩
theorem Has.drewN {w:World} {h:Heap} (k:Has w h) (n:Nat):Has (w.drewN n) h:=⟨k.here,k.once⟩
theorem Has.drew {w:World} {h:Heap} (k:Has w h):Has w.drew h:=⟨k.here,k.once⟩
theorem Has.is {w:World} {h:Heap} (k:Has w h) {b:Nat} {T:TypeId} {l:List Value} (hm:row b T l ∈ h):At.Is w b T [] l []:=by
 unfold At.Is;rw [k.here _ hm,List.nil_append,List.append_nil]
theorem Has.is3 {w:World} {h:Heap} (k:Has w h) {b:Nat} {T:TypeId} {pre l post:List Value} (hm:row b T (pre ++ l ++ post) ∈ h):At.Is w b T pre l post:=by
 unfold At.Is;rw [k.here _ hm]
theorem Has.cell {w:World} {h:Heap} (k:Has w h) (b:Nat) (T:TypeId) (l:List Value) (hm:row b T l ∈ h) (j:Nat) (v:Value) (hj:l[j]? = some v):w.cell? ⟨b,j,none⟩=some v:=by
 have:=(k.is hm).cell j v hj;simpa using this
theorem Has.free {w:World} {h:Heap} (k:Has w h) (b:Nat) (T:TypeId) (l:List Value) (hm:row b T l ∈ h) (j:Nat):w.frozen? ⟨b,j,none⟩=false:=(k.is hm).free j
theorem aA.refl {w:World} {h:Heap} (k:Has w h):aA h h w w:=⟨k,zK.refl _ _,fun _ hb=>.inl hb⟩
theorem aA.trans {u v w:World} {a b c:Heap} (h:aA a b u v) (k:aA b c v w):aA a c u w where
 has:=k.has
 keeps:=⟨k.keeps.os.trans h.keeps.os,k.keeps.tape.trans h.keeps.tape,k.keeps.output.trans h.keeps.output,Nat.le_trans h.keeps.size k.keeps.size,fun i hi hn=>by
  refine (k.keeps.block i (Nat.lt_of_lt_of_le hi h.keeps.size) fun hb=>?_).trans (h.keeps.block i hi hn)
  rcases h.new i hb with h1 | h1
  ·exact hn h1
  ·omega⟩
 new:=fun i hi=>by
  rcases k.new i hi with h1 | h1
  ·exact h.new i h1
  ·exact .inr (Nat.le_trans h.keeps.size h1)
theorem aA.perm {a a' b b':Heap} {u v:World} (h:aA a b u v) (pa:a.Perm a') (pb:b.Perm b'):aA a' b' u v where
 has:=h.has.perm pb
 keeps:=⟨h.keeps.os,h.keeps.tape,h.keeps.output,h.keeps.size,fun i hi hn=>h.keeps.block i hi fun hb=>hn ((pa.map Prod.fst).mem_iff.1 hb)⟩
 new:=fun i hi=>((h.new i ((pb.map Prod.fst).mem_iff.2 hi)).imp_left fun hx=>(pa.map Prod.fst).mem_iff.1 hx)
theorem aA.frame {a b r:Heap} {u v:World} (h:aA a b u v) (k:Has u (a ++ r)):aA (a ++ r) (b ++ r) u v:=by
 obtain ⟨_,k2,k3⟩:=Has.append.1 k;refine ⟨Has.append.2 ⟨h.has,k2.kept h.keeps fun x hx ha=>k3 x ha hx,fun x hx hr=>?_⟩,⟨h.keeps.os,h.keeps.tape,h.keeps.output,h.keeps.size,fun i hi hn=>h.keeps.block i hi fun hb=>hn ?_⟩,fun i hi=>?_⟩
 ·rcases h.new x hx with h1 | h1
  ·exact k3 x h1 hr
  ·have:=k2.lt hr;omega
 ·rw [blocks,List.map_append];exact List.mem_append_left _ hb
 ·rw [blocks,List.map_append] at hi |-
  rcases List.mem_append.1 hi with h1 | h1
  ·exact (h.new i h1).imp_left (List.mem_append_left _)
  ·exact .inl (List.mem_append_right _ h1)
theorem aA.behind {a b r:Heap} {u v:World} (h:aA a b u v) (k:Has u (r ++ a)):aA (r ++ a) (r ++ b) u v :=
 (h.frame k.swap).perm List.perm_append_comm List.perm_append_comm
theorem aA.cons {a b:Heap} {p:Nat × Obj} {u v:World} (h:aA a b u v) (k:Has u (p :: a)):aA (p :: a) (p :: b) u v:=aA.behind (r:=[p]) h k
theorem aA.aMw {a b l r:Heap} {u v:World} (h:aA a b u v) (k:Has u (l ++ (a ++ r))):aA (l ++ (a ++ r)) (l ++ (b ++ r)) u v :=
 (h.frame k.right).behind k
theorem aA.aJ {a:Heap} {u v:World} (k:Has u a) (h:Below u.heap.size u v):aA a a u v :=
 ⟨k.below h,⟨h.os,h.tape,h.output,h.size,fun i hi _=>h.block i hi⟩,fun _ hb=>.inl hb⟩
theorem aA.below {a b:Heap} {B:Nat} {u v:World} (h:aA a b u v) (hB:∀ x ∈ blocks a,B <= x) (hs:B <= u.heap.size):Below B u v :=
 ⟨h.keeps.os,h.keeps.tape,h.keeps.output,h.keeps.size,fun i hi=>h.keeps.block i (by omega) fun hb=>by have:=hB i hb;omega⟩
theorem aA.least {a b:Heap} {B:Nat} {u v:World} (h:aA a b u v) (hB:∀ x ∈ blocks a,B <= x) (hs:B <= u.heap.size):∀ x ∈ blocks b,B <= x:=by
 intro x hx;rcases h.new x hx with h1 | h1
 ·exact hB x h1
 ·omega
theorem aA.drop {a b c:Heap} {u v:World} (h:aA a (b ++ c) u v):aA a b u v :=
 ⟨h.has.left,h.keeps,fun i hi=>h.new i (by rw [blocks,List.map_append];exact List.mem_append_left _ hi)⟩
theorem aA.forget {a b c:Heap} {u v:World} (h:aA a (b ++ c) u v):aA a c u v :=
 ⟨h.has.right,h.keeps,fun i hi=>h.new i (by rw [blocks,List.map_append];exact List.mem_append_right _ hi)⟩
open Classical in
theorem aE {α:Type} (a b:List α) (h:∀ x,List.count x a=List.count x b):a.Perm b:=List.perm_iff_count.2 h
theorem aA.focus {h1 h2 a b r:Heap} {u v:World} (k:Has u h1) (p1:h1.Perm (a ++ r)) (t:Has u a -> aA a b u v) (p2:h2.Perm (b ++ r)):aA h1 h2 u v :=
 ((t (k.perm p1).left).frame (k.perm p1)).perm p1.symm p2.symm
theorem aA.alloc {a b:Heap} {u v:World} (h:aA a b u v) (o:Obj):aA a ((v.heap.size,o) :: b) u (v.alloc o):=by
 refine ⟨⟨fun p hp=>?_,?_⟩,⟨h.keeps.os,h.keeps.tape,h.keeps.output,by simp;exact Nat.le_succ_of_le h.keeps.size,fun i hi hn=>(Below.heap_alloc _ _ _ (Nat.lt_of_lt_of_le hi h.keeps.size)).trans (h.keeps.block i hi hn)⟩,fun i hi=>?_⟩
 ·rcases List.mem_cons.1 hp with rfl | h1
  ·exact heap_alloc_new v o
  ·exact (Below.heap_alloc _ _ _ (h.has.lt (List.mem_map_of_mem h1))).trans (h.has.here p h1)
 ·refine List.nodup_cons.2 ⟨fun hb=>?_,h.has.once⟩
  have:=h.has.lt hb;exact Nat.lt_irrefl _ this
 ·rcases List.mem_cons.1 hi with rfl | h1
  ·exact .inr h.keeps.size
  ·exact h.new i h1
theorem aA.bC {a b:Heap} {u v:World} (h:aA a b u v) (k:Nat) (hk:v.heap.size=k) (o:Obj):aA a ((k,o) :: b) u (v.alloc o):=by
 subst hk;exact h.alloc o
theorem aA.aD {a b:Heap} {u v:World} (h:aA a b u v) (o:Obj):aA a b u (v.alloc o):=aA.forget (b:=[_]) (h.alloc o)
theorem aA.drew {a b:Heap} {u v:World} (h:aA a b u v):aA a b u v.drew :=
 ⟨⟨h.has.here,h.has.once⟩,⟨h.keeps.os,h.keeps.tape,h.keeps.output,h.keeps.size,h.keeps.block⟩,h.new⟩
theorem aA.drewN {a b:Heap} {u v:World} (h:aA a b u v) (n:Nat):aA a b u (v.drewN n) :=
 ⟨⟨h.has.here,h.has.once⟩,⟨h.keeps.os,h.keeps.tape,h.keeps.output,h.keeps.size,h.keeps.block⟩,h.new⟩
theorem aA.set {a r : Heap} {b : Nat} {T : TypeId} {l : List Value} {u v : World} (h : aA a (row b T l :: r) u v) (j : Nat) (x : Value) (hj : j < l.length) :
  aA a (row b T (l.set j x) :: r) u (v.setCell ⟨b,j,none⟩ x):=by
 have hb:b ∉ blocks r:=(List.nodup_cons.1 h.has.once).1;have h0:=h.has.is (b:=b) (T:=T) (l:=l) mcs;have h1:=h0.set j x hj;simp only [List.length_nil,Nat.zero_add] at h1;refine ⟨⟨fun p hp=>?_,h.has.once⟩,⟨h.keeps.os,h.keeps.tape,h.keeps.output,by simp [World.setCell];exact h.keeps.size,fun i hi hn=>?_⟩,h.new⟩
 ·rcases List.mem_cons.1 hp with rfl | h2
  ·unfold At.Is at h1;rw [List.nil_append,List.append_nil] at h1;exact h1
  ·exact (Below.heap_setCell _ _ _ _ fun e=>hb (by have h3:=List.mem_map_of_mem (f:=Prod.fst) h2;rw [e] at h3;exact h3)).trans (h.has.here p (mcm _ h2))
 ·refine (Below.heap_setCell _ _ _ _ fun e=>hn ?_).trans (h.keeps.block i hi hn)
  subst e;rcases h.new _ mcs with h3 | h3
  ·exact h3
  ·exfalso;simp only at h3;omega
theorem aA.setAt {a C : Heap} {b : Nat} {T : TypeId} {l : List Value} {u v : World} (A : Heap) (h : aA a (A ++ row b T l :: C) u v) (j : Nat) (x : Value) (hj : j < l.length) :
  aA a (A ++ row b T (l.set j x) :: C) u (v.setCell ⟨b,j,none⟩ x) :=
 ((h.perm (List.Perm.refl _) List.perm_middle).set j x hj).perm (List.Perm.refl _) List.perm_middle.symm
theorem Has.cL {w:World} {b:Nat} {T:TypeId} {l:List Value} {r:Heap} (h:Has w (row b T l :: r)):b < w.heap.size:=h.lt mcs
theorem dL {a b:Int} (h:a=b):Ending.returned (.int .i64 a) = .returned (.int .i64 b):=by rw [h]
theorem dW {a b:Bool} (h:a=b):Ending.returned (.bool a) = .returned (.bool b):=by rw [h]
theorem aZ {a b:ByteArray} (h:a=b):Ending.returned (.string a) = .returned (.string b):=by rw [h]
theorem take_succ (s:ByteArray) (j:Nat) (h:j < s.size):s.data.toList.take (j + 1)=s.data.toList.take j ++ [s[j]'h]:=by
 rw [List.take_succ_eq_append_getElem (by rw [Array.length_toList];exact h)];rfl
theorem dQ (z:Value) (n:Nat):madeCells #[z] n=(List.replicate n z).toArray:=by
 apply Array.toList_inj.1;apply List.ext_getElem
 ·simp [madeCells]
 ·intro i h1 h2
  simp [madeCells,Nat.mod_one]
end Own
end
section
namespace Json
inductive Part where
 | null
 | bool (b:Bool)
 | whole (neg:Bool) (mag:Nat)
 | word (s:ByteArray)
 | cW (s:ByteArray)
 | aG (map:Bool) (count:Int)
 | close
 | other (b:Bool)
def Part.may:Part -> Bool
 | .aG _ c=>decide (-1 <= c)
 | .other _=>false
 | _=>true
structure Evt where
 kind:Int
 yes:Bool
 mag:Nat
 text:ByteArray
 count:Int
def Evt.part (e:Evt):Option Part :=
 if e.kind=0 then some .null
 else if e.kind=1 then some (.bool e.yes)
 else if e.kind=2 then some (.whole e.yes e.mag)
 else if e.kind=3 then some (.word e.text)
 else if e.kind=4 then some (.cW e.text)
 else if e.kind=5 then (if e.count < -1 then none else some (.aG false e.count))
 else if e.kind=6 then (if e.count < -1 then none else some (.aG true e.count))
 else if e.kind=7 then some .close
 else none
def Evt.zero:Evt:=⟨0,false,0,⟨#[]⟩,0⟩
def Part.evt:Part -> Evt
 | .null=>⟨0,false,0,⟨#[]⟩,0⟩
 | .bool b=>⟨1,b,0,⟨#[]⟩,0⟩
 | .whole n m=>⟨2,n,m,⟨#[]⟩,0⟩
 | .word s=>⟨3,false,0,s,0⟩
 | .cW s=>⟨4,false,0,s,0⟩
 | .aG m c=>⟨if m then 6 else 5,false,0,⟨#[]⟩,c⟩
 | .close=>⟨7,false,0,⟨#[]⟩,0⟩
 | .other _=>Evt.zero
def Part.isWord:Part -> Bool
 | .word _=>true
 | _=>false
structure Box where
 pairs:Bool
 parts:Nat
def Box.aK (c:Box):Bool:=c.pairs && decide (c.parts % 2=1)
structure Wr where
 opened:List Box
 done:Bool
def Wr.zero:Wr:=⟨[],false⟩
def Box.ahead (c:Box):List UInt8:=if c.aK then [58] else if 0 < c.parts then [44] else []
def Wr.step (text:Part -> List UInt8) (w:Wr) (p:Part):List UInt8 × Nat × Wr :=
 if !p.may || w.done then ([],14,w)
 else
  match p with
  | .close =>
   match w.opened.getLast? with
   | none=>([],14,w)
   | some c=>if c.aK then ([],14,w) else ([if c.pairs then 125 else 93],0,⟨w.opened.dropLast,decide (w.opened.length=1)⟩)
  | p =>
   match w.opened.getLast? with
   | none =>
    match p with
    | .aG m _=>([if m then 123 else 91],0,⟨[⟨m,0⟩],false⟩)
    | p=>(text p,0,⟨[],true⟩)
   | some c =>
    if c.pairs && !c.aK && !p.isWord then ([],8,w)
    else
     let l:=w.opened.dropLast ++ [⟨c.pairs,c.parts + 1⟩]
     match p with
     | .aG m _=>(c.ahead ++ [if m then 123 else 91],0,⟨l ++ [⟨m,0⟩],false⟩)
     | p=>(c.ahead ++ text p,0,⟨l,false⟩)
theorem Wr.aFe (text:Part -> List UInt8) (w:Wr) (p:Part) (h:p.may=false):w.step text p=([],14,w):=by
 unfold Wr.step;rw [h];rfl
theorem Wr.step_done (text:Part -> List UInt8) (w:Wr) (p:Part) (h:w.done=true):w.step text p=([],14,w):=by
 unfold Wr.step;rw [h];simp
end Json
end
section
open Go.RowKit
namespace Ring
def sO (l:List UInt8) (f n:Nat):List UInt8:=(List.range n).map fun i=>l.getD ((f + i) % l.length) 0
theorem kB (l:List UInt8) (f n:Nat):(sO l f n).length=n:=by simp [sO]
theorem aEy (l:List UInt8) (f n:Nat) (x:UInt8) (hn:n < l.length):sO (l.set ((f + n) % l.length) x) f (n + 1)=sO l f n ++ [x]:=by
 unfold sO;rw [List.range_succ,List.map_append];congr 1
 ·apply List.map_congr_left
  intro i hi;have hi:i < n:=List.mem_range.1 hi;rw [List.length_set];have hne:(f + n) % l.length ≠ (f + i) % l.length:=by
   intro h;have h1:(f + n) % l.length=(f + i) % l.length:=h;have:(n - i) % l.length=0:=by
    have h2:=Nat.sub_mod_eq_zero_of_mod_eq h1
    rwa [show f + n - (f + i)=n - i by omega] at h2
   rw [Nat.mod_eq_of_lt (by omega)] at this;omega
  simp [List.getD_eq_getElem?_getD,List.getElem?_set_ne hne]
 ·have hlt:(f + n) % l.length < l.length:=Nat.mod_lt _ (by omega)
  simp [List.getD_eq_getElem?_getD,hlt]
theorem iN (l:List UInt8) (f n i:Nat) (hi:i < n):(sO l f n)[i]? = some (l.getD ((f + i) % l.length) 0):=by
 simp [sO,hi]
theorem aFl (l:List UInt8) (f n k:Nat) (hk:k <= n):sO l ((f + k) % l.length) (n - k)=(sO l f n).drop k:=by
 apply List.ext_getElem?;intro i;rw [List.getElem?_drop];by_cases h:i < n - k
 ·rw [iN _ _ _ _ h,iN _ _ _ _ (by omega),Nat.mod_add_mod,Nat.add_assoc]
 ·rw [List.getElem?_eq_none (by rw [kB];omega),List.getElem?_eq_none (by rw [kB];omega)]
end Ring
end
end Go.Proofs.YtcjflgmcjfcodaaGreat
