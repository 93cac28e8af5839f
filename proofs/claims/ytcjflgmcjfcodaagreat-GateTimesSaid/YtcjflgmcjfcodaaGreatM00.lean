/- Texts of the walk, joined. -/
import Derived.Lib.Hide
import Derived.WalkKit
import Derived.WalkSmall
set_option maxRecDepth 100000
set_option maxHeartbeats 8000000
namespace Go.Proofs.Tryz end Go.Proofs.Tryz
namespace Go.Proofs.YtcjflgmcjfcodaaGreat
open Go.Proofs.Tryz
section
open Go.RowKit
theorem _root_.Go.RowKit.Hid.o {p:Prop} (h:Hid p):p:=h.out
theorem hhh {p:Prop} (h:p):Hid p:=Lib.hid h
theorem mcs {a:Type} {x:a} {l:List a}:x ∈ x :: l:=List.mem_cons_self ..
theorem mcm {a:Type} (y:a) {x:a} {l:List a} (h:x ∈ l):x ∈ y :: l:=List.mem_cons_of_mem y h
theorem nlb {n m:Nat} (h:Nat.ble n m=true):n <= m:=Nat.le_of_ble_eq_true h
theorem msr {a:Type} {x:a}:x ∈ [x]:=List.mem_singleton.2 rfl
theorem bfn {a:Type} [BEq a] [LawfulBEq a] {x y:a}:(x == y)=false ↔ x ≠ y:=beq_eq_false_iff_ne
theorem lla {a:Type} {x y:List a}:(x ++ y).length=x.length + y.length:=List.length_append
theorem ai {a b:Prop} (h:a) (k:b):a /\ b:=And.intro h k
theorem ifn {c:Prop} {h:Decidable c} (k:¬c) {a:Type} {t e:a}:ite c t e=e:=if_neg k
theorem ifp {c:Prop} {h:Decidable c} (k:c) {a:Type} {t e:a}:ite c t e=t:=if_pos k
namespace At
def Is (w:World) (b:Nat) (T:TypeId) (pre l post:List Value):Prop:=w.heap[b]? = some (.cells (pre ++ l ++ post).toArray T (0,0))
structure aV (b:Nat) (w w':World):Prop where
 os:w'.os=w.os
 tape:w'.tape=w.tape
 output:w'.output=w.output
 size:w.heap.size <= w'.heap.size
 block:∀ k,k < w.heap.size -> k ≠ b -> w'.heap[k]? = w.heap[k]?
theorem aV.refl (b:Nat) (w:World):aV b w w:=⟨rfl,rfl,rfl,Nat.le_refl _,fun _ _ _=>rfl⟩
theorem aV.trans {b:Nat} {u v w:World} (h:aV b u v) (k:aV b v w):aV b u w :=
 ⟨k.os.trans h.os,k.tape.trans h.tape,k.output.trans h.output,Nat.le_trans h.size k.size,
  fun i hi hb=>(k.block i (Nat.lt_of_lt_of_le hi h.size) hb).trans (h.block i hi hb)⟩
theorem aV.set {b:Nat} {u v:World} (h:aV b u v) (o:Nat) (x:Value):aV b u (v.setCell ⟨b,o,none⟩ x) :=
 h.trans ⟨rfl,rfl,rfl,by simp [World.setCell],fun k _ hb=>Below.heap_setCell _ _ _ _ hb⟩
theorem aV.alloc {b:Nat} {u v:World} (h:aV b u v) (o:Obj):aV b u (v.alloc o) :=
 h.trans ⟨rfl,rfl,rfl,by simp,fun k hk _=>Below.heap_alloc _ _ _ hk⟩
theorem aV.drew {b:Nat} {u v:World} (h:aV b u v):aV b u v.drew:=⟨h.os,h.tape,h.output,h.size,h.block⟩
theorem aV.drewN {b:Nat} {u v:World} (h:aV b u v) (n:Nat):aV b u (v.drewN n):=⟨h.os,h.tape,h.output,h.size,h.block⟩
section
variable {w:World} {b:Nat} {T:TypeId} {pre l post:List Value}
theorem Is.lt (h:Is w b T pre l post):b < w.heap.size:=(Array.getElem?_eq_some_iff.1 h).1
theorem Is.cell (h:Is w b T pre l post) (j:Nat) (v:Value) (hj:l[j]? = some v):w.cell? ⟨b,pre.length + j,none⟩=some v:=by
 have hl:j < l.length:=(List.getElem?_eq_some_iff.1 hj).1;unfold Is at h;simp only [World.cell?,h,Option.isSome_none,Bool.false_eq_true,if_false];rw [List.getElem?_toArray,List.append_assoc,List.getElem?_append_right (by omega),Nat.add_sub_cancel_left,List.getElem?_append_left hl,hj]
theorem Is.cell0 (h:Is w b T pre l post) (v:Value) (hj:l[0]? = some v):w.cell? ⟨b,pre.length,none⟩=some v:=h.cell 0 v hj
theorem Is.free (h:Is w b T pre l post) (j:Nat):w.frozen? ⟨b,j,none⟩=false:=by
 unfold Is at h;simp [World.frozen?,h]
theorem Is.set (h:Is w b T pre l post) (j:Nat) (v:Value) (hj:j < l.length):Is (w.setCell ⟨b,pre.length + j,none⟩ v) b T pre (l.set j v) post:=by
 unfold Is at h |-;simp only [World.setCell,Array.getElem?_modify,h,if_true,Option.map_some];congr 2;apply Array.toList_inj.1;simp only [Option.isSome_none,Bool.false_eq_true,if_false,Array.toList_setIfInBounds];rw [List.append_assoc,List.set_append_right _ _ (by omega),Nat.add_sub_cancel_left,List.set_append_left _ _ hj,List.append_assoc]
theorem Is.lG (h:Is w b T pre l post) (v:Value) (hj:0 < l.length):Is (w.setCell ⟨b,pre.length,none⟩ v) b T pre (l.set 0 v) post:=h.set 0 v hj
theorem Is.kept {w':World} (h:Is w b T pre l post) (hk:w'.heap[b]? = w.heap[b]?):Is w' b T pre l post:=by
 unfold Is at h |-;rw [hk,h]
theorem Is.alloc (h:Is w b T pre l post) (o:Obj):Is (w.alloc o) b T pre l post:=h.kept (Below.heap_alloc _ _ _ h.lt)
theorem Is.drew (h:Is w b T pre l post):Is w.drew b T pre l post:=h
theorem Is.drewN (h:Is w b T pre l post) (n:Nat):Is (w.drewN n) b T pre l post:=h
theorem Is.head {l2 l3:List Value} (h:Is w b T pre (l2 ++ l3) post):Is w b T pre l2 (l3 ++ post):=by
 unfold Is at h |-;rw [h];simp
theorem Is.join {l2 l3:List Value} (h:Is w b T pre l2 (l3 ++ post)):Is w b T pre (l2 ++ l3) post:=by
 unfold Is at h |-;rw [h];simp
theorem Is.new (w:World) (l:List Value) (T:TypeId):Is (w.alloc (.cells l.toArray T)) w.heap.size T [] l []:=by
 unfold Is;rw [List.nil_append,List.append_nil];exact heap_alloc_new w _
end
end At
end
end Go.Proofs.YtcjflgmcjfcodaaGreat
