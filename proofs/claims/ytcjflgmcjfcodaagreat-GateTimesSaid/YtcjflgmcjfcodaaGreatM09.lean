/- Texts of the walk, joined. -/
import Derived.Test.YtcjflgmcjfcodaaGreatM05
import Derived.Test.YtcjflgmcjfcodaaGreatM07
import Derived.Test.YtcjflgmcjfcodaaGreatM08
import Derived.Deep.QuietTactic
import Derived.Lib.Hide
import Derived.OpenShut
import Derived.StillTailTactics
import Derived.Test.YtcjflgmcjfcodaaGreatProg
set_option maxRecDepth 100000
set_option maxHeartbeats 8000000
namespace Go.Proofs.Tryz end Go.Proofs.Tryz
namespace Go.Proofs.YtcjflgmcjfcodaaGreat
open Go.Proofs.Tryz
section
open Go.RowKit
namespace Queue
def Is (c:List UInt8) (lv:Value) (h:Own.Heap):Prop :=
 ∃ chunks:List ByteArray,Own.Slc 9 (chunks.map Value.string) lv h /\ c=(chunks.map fun x=>x.data.toList).flatten /\ ∀ x ∈ chunks,x.size ≠ 0
theorem Is.none:Is [] (.slice none 0 0) []:=⟨[],Own.Slc.bare _ rfl,rfl,by simp⟩
theorem few (chunks:List ByteArray) (h:∀ x ∈ chunks,x.size ≠ 0):chunks.length <= ((chunks.map fun x=>x.data.toList).flatten).length:=by
 induction chunks with
 | nil=>simp
 | cons x l ih =>
  have h1:=h x mcs;have h2:=ih fun y hy=>h y (mcm _ hy)
  rw [List.map_cons,List.flatten_cons,lla,List.length_cons];have q:x.data.toList.length=x.size:=Array.length_toList;omega
abbrev at_ (b:Nat) (T:TypeId) (pre:List Value) (lv:Value) (c:List UInt8) (post:List Value):Nat × Obj:=Own.row b T (pre ++ (lv :: .int .i64 (c.length:Int) :: post))
section
variable {w:World} {b:Nat} {T:TypeId} {pre post:List Value} {lv:Value} {c:List UInt8} {h:Own.Heap}
theorem cell0 {R:Own.Heap} (k:Own.Has w R) (hm:at_ b T pre lv c post ∈ R):w.cell? ⟨b,pre.length,none⟩=some lv :=
 k.cell b T _ hm pre.length lv (by simp)
theorem cU {R:Own.Heap} (k:Own.Has w R) (hm:at_ b T pre lv c post ∈ R):w.cell? ⟨b,pre.length + 1,none⟩=some (.int .i64 (c.length:Int)) :=
 k.cell b T _ hm (pre.length + 1) _ (by simp)
theorem vD {a R : Own.Heap} {u v : World} (t : Own.aA a (at_ b T pre lv c post :: R) u v) (lv' : Value) (c' : List UInt8) (n : Int) (hn : n = (c'.length : Int)) :
  Own.aA a (at_ b T pre lv' c' post :: R) u ((v.setCell ⟨b,pre.length,none⟩ lv').setCell ⟨b,pre.length + 1,none⟩ (.int .i64 n)):=by
 subst hn;have t2:=(t.set pre.length lv' (by simp)).set (pre.length + 1) (.int .i64 (c'.length:Int)) (by simp);have e:((pre ++ (lv :: .int .i64 (c.length:Int) :: post)).set pre.length lv').set (pre.length + 1) (.int .i64 (c'.length:Int))=pre ++ (lv' :: .int .i64 (c'.length:Int) :: post):=by
  rw [List.set_append_right _ _ (by omega),Nat.sub_self,List.set_append_right _ _ (by omega),Nat.add_sub_cancel_left];rfl
 rw [e] at t2;exact t2
theorem eQ {R : Own.Heap} (k : Own.Has w R) (hm : at_ b T pre lv c post ∈ R) (P : Nat) (hP : P = pre.length) :
  Calls prog 56 #[.pointer (some ⟨b,P,none⟩)] w fun e w'=>e = .returned (.int .i64 (c.length:Int)) /\ w'=w:=by
 have c1:=cU k hm;rw [<- hP] at c1;clear hP;go_enter func56,ntmps56;go_wp2;go_ret;exact ⟨rfl,rfl⟩
theorem fX (k : Own.Has w (at_ b T pre lv c post :: h)) (q : Is c lv h) (P : Nat) (hP : P = pre.length) (s : ByteArray) (hs : c.length + s.size ≤ 1000000000000) :
  Calls prog 70 #[.pointer (some ⟨b,P,none⟩),.string s] w fun e w'=>(∃ v,e = .returned v) /\
   ∃ lv' h',Is (c ++ s.data.toList) lv' h' /\ Own.aA (at_ b T pre lv c post :: h) (at_ b T pre lv' (c ++ s.data.toList) post :: h') w w':=by
 have hk:=k;obtain ⟨chunks,hs1,hs2,hs3⟩:=q;have c0:=cell0 k mcs;have c1:=cU k mcs;rw [<- hP] at c0 c1;have HS:=hhh hs;by_cases h0:s.size=0
 ·have e0:s.toList.isEmpty=true:=by
   rw [ByteArray.toList_eq,List.isEmpty_iff];exact List.eq_nil_of_length_eq_zero (by rw [Array.length_toList];exact h0)
  have E0:=hhh (show s.data.toList=[] from List.eq_nil_of_length_eq_zero (by rw [Array.length_toList];exact h0));have HQ:=hhh hs1;have HK:=hhh hk;clear h0 hs1 hs hk k hP;go_enter func70,ntmps70;go_wp2
  all_goals refine bodyPost_ret (results_none rfl _ _ _) rfl ?_
  all_goals
   refine ⟨⟨_,rfl⟩,lv,h,⟨chunks,HQ.o,?_,hs3⟩,?_⟩
   ·rw [E0.o,hs2];simp
   ·rw [E0.o,List.append_nil]
    exact Own.aA.refl HK.o
 ·have e0:s.toList.isEmpty=false:=by
   rw [ByteArray.toList_eq,List.isEmpty_eq_false_iff];intro e;have q:s.data.toList.length=s.size:=Array.length_toList;rw [e] at q;exact h0 q.symm
  obtain ⟨i0,hi,hz0,hz1,hz2⟩:=info_parts (P:=prog) (e:=9) (z:=.string ⟨#[]⟩) (size:=1) (bytes:=16) (by kernel_rfl);have HL:=hhh (show chunks.length <= c.length by rw [hs2];exact few chunks hs3);obtain ⟨a0,cp,e1⟩:=hs1.len;subst e1;rw [List.length_map] at hs1 hk c0;clear k;have HH:=hhh (ai hs1 (ai hs2 hs3));have Hi:=hhh (ai hi (ai hz0 (ai hz1 hz2)));have HP:=hhh hP;clear hi hz0 hz1 hz2 hs hs2 hs3 hs1 hP;go_enter func70,ntmps70;go_wp2_with (at_builtin;go_loud (refine Own.aX rfl _ _ 82 rfl 9 i0 (.string ⟨#[]⟩) 16 underlying82 Hi.o.1 Hi.o.2.1 Hi.o.2.2.1 Hi.o.2.2.2 rfl _ _ chunks.length (List.length_map ..) h [at_ b T pre (.slice a0 _ cp) c post] rfl HH.o.1 (Own.Has.swap (a:=[_]) hk) (.string s) rfl rfl ?c1 ?c2 ?_))
  case c1=>have:=HL.o;have:=HS.o;simp only [maxLen];omega
  case c2=>have:=HL.o;have:=HS.o;omega
  intro ad' c' h' w1 hs' ht';have hk1:Own.Has w1 (at_ b T pre (.slice a0 chunks.length cp) c post :: h'):=ht'.has.swap;have d1:=cU hk1 mcs;have f0:w1.frozen? ⟨b,P,none⟩=false:=hk1.free b T _ mcs P;have f1:w1.frozen? ⟨b,P + 1,none⟩=false:=hk1.free b T _ mcs (P + 1);have d0:=cell0 hk1 mcs;rw [<- HP.o] at d0 d1;go_wp2;go_end0;have hsz:(s.size:Int)=(s.data.toList.length:Int):=by rw [Array.length_toList];rfl
  refine ⟨⟨_,rfl⟩,.slice ad' (chunks.length + 1) c',h',⟨chunks ++ [s],by simpa using hs',?_,?_⟩,?_⟩
  ·rw [List.map_append,List.flatten_append,<- HH.o.2.1];simp
  ·intro x hx
   rcases List.mem_append.1 hx with h1 | h1
   ·exact HH.o.2.2 x h1
   ·rw [List.mem_singleton.1 h1];exact h0
  ·have t1:=ht'.perm List.perm_append_comm List.perm_append_comm
   have t2:=vD t1 (.slice ad' (chunks.length + 1) c') (c ++ s.data.toList) (wrap64 ((c.length:Int) + (s.size:Int))) (by have:=HS.o;rw [lla];unfold wrap64;omega);rw [HP.o,List.length_map];exact t2
end
end Queue
end
section
open Go.RowKit
namespace Queue
theorem jL {B b:Nat} {bs:List Value} {w w':World} (h:Lib.IsBuilderF 115 5 B b bs w) (hk:∀ k,B <= k -> k < w.heap.size -> w'.heap[k]? = w.heap[k]?):Lib.IsBuilderF 115 5 B b bs w':=by
 have main:∀ p,Lib.BuilderAtF 115 5 B b p bs w -> Lib.BuilderAtF 115 5 B b p bs w':=by
  rintro p ⟨hB,v,hbk,hown,hne⟩;refine ⟨hB,v,by rw [hk b hB (Array.getElem?_eq_some_iff.1 hbk).1];exact hbk,⟨hown.1,?_⟩,hne⟩;rcases hown.2 with hn | ⟨g,cap,cur,fz,rfl,hg1,hg,rest⟩
  ·exact .inl hn
  ·exact .inr ⟨g,cap,cur,fz,rfl,hg1,by rw [hk g hg1 (Array.getElem?_eq_some_iff.1 hg).1];exact hg,rest⟩
 rcases h with h | h
 ·exact .inl (main _ h)
 ·exact .inr (main _ h)
theorem aBc {h:Own.Heap} {B:Nat} {w w':World} (k:Own.Has w h) (hB:∀ b ∈ Own.blocks h,b < B) (hb:Below B w w'):Own.Has w' h :=
 ⟨fun p hp=>(hb.block p.1 (hB _ (List.mem_map_of_mem hp))).trans (k.here p hp),k.once⟩
theorem jX {a h:Own.Heap} {u w w':World} (t:Own.aA a h u w) (hB:∀ b ∈ Own.blocks h,b < u.heap.size) (hb:Below u.heap.size w w'):Own.aA a h u w' :=
 ⟨aBc t.has hB hb,⟨hb.os.trans t.keeps.os,hb.tape.trans t.keeps.tape,hb.output.trans t.keeps.output,Nat.le_trans t.keeps.size hb.size,fun i hi hn=>(hb.block i hi).trans (t.keeps.block i hi hn)⟩,t.new⟩
theorem kX (x:ByteArray) (k:Nat):(x.extract k x.size).data.toList=x.data.toList.drop k:=by
 rw [ByteArray.data_extract,Array.toList_extract];simp;exact List.take_of_length_le (by rw [List.length_drop,Array.length_toList];exact Nat.le_refl _)
theorem dU (x:ByteArray) (k:Nat):(x.extract 0 k).data.toList=x.data.toList.take k:=by
 rw [ByteArray.data_extract,Array.toList_extract];simp
theorem first {c : List UInt8} {lv : Value} {h : Own.Heap} (q : Is c lv h) (hc : 0 < c.length) : ∃ (x : ByteArray) (tl : List ByteArray) (b : Nat) (pre spare : List Value),
  lv = .slice (some ⟨b,pre.length,none⟩) (tl.length + 1) (tl.length + 1 + spare.length) /\ h=[Own.row b 9 (pre ++ (.string x :: (tl.map Value.string ++ spare)))] /\ x.size ≠ 0 /\ (∀ y ∈ tl,y.size ≠ 0) /\
  c=x.data.toList ++ (tl.map fun y=>y.data.toList).flatten /\ tl.length + 1 + spare.length <= maxLen:=by
 obtain ⟨chunks,hs,hcc,hne⟩:=q
 cases chunks with
 | nil=>rw [hcc] at hc;simp at hc
 | cons x tl =>
  generalize hxs:(x :: tl).map Value.string=xs at hs
  cases hs with
  | bare a h0=>rw [h0] at hxs;simp at hxs
  | row b pre spare hm =>
   subst hxs;refine ⟨x,tl,b,pre,spare,by simp,by simp,hne x mcs,fun y hy=>hne y (mcm _ hy),by rw [hcc];simp,by simpa using hm⟩
theorem part {x : ByteArray} {tl : List ByteArray} {b : Nat} {pre spare : List Value} (k : Nat) (hk : k < x.size) (hne : ∀ y ∈ tl, y.size ≠ 0) (hm : tl.length + 1 + spare.length ≤ maxLen) :
  Is ((x.data.toList ++ (tl.map fun y=>y.data.toList).flatten).drop k) (.slice (some ⟨b,pre.length,none⟩) (tl.length + 1) (tl.length + 1 + spare.length)) [Own.row b 9 (pre ++ (.string (x.extract k x.size) :: (tl.map Value.string ++ spare)))]:=by
 refine ⟨x.extract k x.size :: tl,?_,?_,?_⟩
 ·have:=Own.Slc.row (e:=9) (xs:=(x.extract k x.size :: tl).map Value.string) b pre spare (by simpa using hm)
  simpa using this
 ·have q:x.data.toList.length=x.size:=Array.length_toList
  rw [List.drop_append_of_le_length (by omega),List.map_cons,List.flatten_cons,kX]
 ·intro y hy
  rcases List.mem_cons.1 hy with rfl | h1
  ·rw [ByteArray.size_extract];omega
  ·exact hne y h1
theorem aA7 {x y : ByteArray} {tl : List ByteArray} {b : Nat} {pre spare : List Value} (hne : ∀ y ∈ tl, y.size ≠ 0) (hm : tl.length + 1 + spare.length ≤ maxLen) :
  Is ((x.data.toList ++ (tl.map fun y=>y.data.toList).flatten).drop x.size) (.slice (some ⟨b,pre.length + 1,none⟩) tl.length (tl.length + spare.length)) [Own.row b 9 (pre ++ (.string y :: (tl.map Value.string ++ spare)))]:=by
 refine ⟨tl,?_,?_,hne⟩
 ·have:=Own.Slc.row (e:=9) (xs:=tl.map Value.string) b (pre ++ [.string y]) spare (by rw [List.length_map];omega)
  simpa using this
 ·have q:x.data.toList.length=x.size:=Array.length_toList
  rw [<- q,List.drop_left]
theorem aAn {x : ByteArray} {tl : List ByteArray} {a : Option Addr} (ht : tl = []) :
  Is ((x.data.toList ++ (tl.map fun y=>y.data.toList).flatten).drop x.size) (.slice a 0 0) []:=by
 subst ht;refine ⟨[],Own.Slc.bare _ rfl,?_,by simp⟩;have q:x.data.toList.length=x.size:=Array.length_toList;rw [<- q,List.drop_left]
section
variable {w:World} {b:Nat} {T:TypeId} {pre post:List Value} {lv:Value} {c:List UInt8} {h:Own.Heap}
theorem nQ {a : Own.Heap} {u v : World} {c' : List UInt8} {lv' : Value} {b0 : Nat} {S : TypeId} {pre0 rest : List Value} {x : Value} (t : Own.aA a [at_ b T pre lv' c' post, Own.row b0 S (pre0 ++ (x :: rest))] u v) (y : Value) :
  Own.aA a [at_ b T pre lv' c' post,Own.row b0 S (pre0 ++ (y :: rest))] u (v.setCell ⟨b0,pre0.length,none⟩ y):=by
 have t1:=Own.aA.setAt (A:=[_]) t pre0.length y (by simp);have e:(pre0 ++ (x :: rest)).set pre0.length y=pre0 ++ (y :: rest):=by
  rw [List.set_append_right _ _ (by omega),Nat.sub_self];rfl
 rw [e] at t1;exact t1
theorem aLm {a R : Own.Heap} {u v : World} {c' : List UInt8} {lv' : Value} (t : Own.aA a (at_ b T pre lv' c' post :: R) u v) (c2 : List UInt8) (n : Int) (hn : n = (c2.length : Int)) :
  Own.aA a (at_ b T pre lv' c2 post :: R) u (v.setCell ⟨b,pre.length + 1,none⟩ (.int .i64 n)):=by
 subst hn;have t1:=t.set (pre.length + 1) (.int .i64 (c2.length:Int)) (by simp);have e:(pre ++ (lv' :: .int .i64 (c'.length:Int) :: post)).set (pre.length + 1) (.int .i64 (c2.length:Int))=pre ++ (lv' :: .int .i64 (c2.length:Int) :: post):=by
  rw [List.set_append_right _ _ (by omega),Nat.add_sub_cancel_left];rfl
 rw [e] at t1;exact t1
end
end Queue
end
section
open Go.RowKit
namespace Queue
section
variable {w:World} {b:Nat} {T:TypeId} {pre post:List Value} {lv:Value} {c:List UInt8} {h:Own.Heap}
theorem aHo (k : Own.Has w (at_ b T pre lv c post :: h)) (q : Is c lv h) (P : Nat) (hP : P = pre.length) (n : Nat) (hc : c.length ≤ 41000) :
  Calls prog 63 #[.pointer (some ⟨b,P,none⟩),.int .i64 (n:Int)] w fun e w'=>e = .returned (.string ⟨(c.take n).toArray⟩) /\
   ∃ lv' h',Is (c.drop n) lv' h' /\ Own.aA (at_ b T pre lv c post :: h) (at_ b T pre lv' (c.drop n) post :: h') w w':=by
 have hk:=k;have HL:=hhh (fun W (hW:Own.Has W (at_ b T pre lv c post :: h))=>eQ hW mcs P hP);obtain ⟨m,hm⟩:∃ m,m=min n c.length:=⟨_,rfl⟩
 have HM:=hhh (show c.take n=c.take m /\ c.drop n=c.drop m by
  rcases Nat.le_total n c.length with h1 | h1
  ·rw [show m=n by omega];exact ⟨rfl,rfl⟩
  ·rw [show m=c.length by omega,List.take_of_length_le h1,List.drop_of_length_le h1,List.take_length,List.drop_length];exact ⟨rfl,rfl⟩)
 rw [HM.o.1,HM.o.2];have hmc:m <= c.length:=by omega
 have t0:Own.aA (at_ b T pre lv c post :: h) (at_ b T pre lv c post :: h) w (w.alloc (.cells #[.pointer none,.slice none 0 0] 115)):=(Own.aA.refl k).aD _;have HLT:=hhh (fun x (hx:x ∈ Own.blocks (at_ b T pre lv c post :: h))=>k.lt hx);have HB:=hhh (ai hm (ai hmc (ai hc (ai trivial hP))));have Q:=hhh q;have HK:=hhh hk;have T0:=hhh t0;clear t0 k q hm hP hk hc;go_enter func63,ntmps63;go_wp2_with (fail);refine (HL.o _ T0.o.has).mono ?_;rintro e W1 ⟨rfl,rfl⟩;go_wp2;rw [show min (n:Int) (c.length:Int)=(m:Int) by have:=HB.o.1;omega]
 go_loopw [1] (fun x wr => ∃ (r j : Nat) (lv' : Value) (h' : Own.Heap), x = .int .i64 r ∧ r + j = m ∧ Is (c.drop j) lv' h' ∧ Own.aA (at_ b T pre lv c post :: h) (at_ b T pre lv' (c.drop j) post :: h') w wr ∧
   (∀ x ∈ Own.blocks (at_ b T pre lv' (c.drop j) post :: h'),x < w.heap.size) /\ Lib.IsBuilderF 115 5 w.heap.size w.heap.size (Lib.byteCells (c.take j)) wr) (fun x _=>(intOf x).toNat)
 case atStart=>exact ⟨m,0,lv,h,rfl,by omega,Q.o,T0.o,HLT.o,Bld.fresh _ _ _ (Nat.le_refl _) rfl⟩
 case round =>
  obtain ⟨r,j,lv',h',rfl,hrj,q',ht,hlt',hb⟩:=hrel;have HT:=hhh (ai ht (ai hlt' (ai hb hrj)));by_cases hr:r=0
  ·have HR:=hhh (show j=m by omega)
   have hr0:(r:Int)=0:=by omega
   have Q':=hhh q';clear ht hlt' hb hrj q' hr;go_wp2_with (fail);refine (Tryz.Builder_String_any_k w.heap.size w.heap.size _ wr HT.o.2.2.1 HT.o.1.keeps.size).mono ?_;rintro e W2 ⟨rfl,h1,h2,h3⟩;have T2:=hhh (jX HT.o.1 HT.o.2.1 h2);clear h1 h2 h3;go_wp2;go_ret;exact ⟨by rw [HR.o];rfl,lv',h',HR.o ▸ Q'.out,HR.o ▸ T2.o⟩
  ·have hcl:0 < (c.drop j).length:=by rw [List.length_drop];omega
   obtain ⟨x,tl,b0,pre0,spare,rfl,rfl,hx,htl,hcx,hmx⟩:=first q' hcl
   have hrp:(0:Int) < (r:Int):=by omega
   have hnb:b ≠ b0:=by
    intro e;have:=ht.has.once;simp [e] at this
   have c0:=cell0 ht.has mcs;have cx:=ht.has.cell b0 9 _ (mcm _ mcs) pre0.length (.string x) (by simp);rw [<- HB.o.2.2.2.2] at c0;obtain ⟨k,hk⟩:∃ k,k=min r x.size:=⟨_,rfl⟩;have hmin:min (r:Int) (x.size:Int)=(k:Int):=by omega
   have hkx:(k:Int) <= (x.size:Int):=by omega
   have HW:=hhh (Bld.ws w.heap.size w.heap.size (c.take j) (x.extract 0 k) wr hb (by rw [List.length_take,ByteArray.size_extract];have h5:=HB.o.2.1;have h6:=HB.o.2.2.1;omega) ht.keeps.size);have HX:=hhh (ai hx (ai htl (ai hcx (ai hmx (ai hk (ai hr hnb))))));clear ht hlt' hb hrj q' hr hx htl hcx hk hcl;go_wp2_with (fail);refine HW.o.mono ?_;rintro e W2 ⟨rfl,bo,hb2,_⟩;have T1:=jX HT.o.1 HT.o.2.1 hb2;have BO:=hhh bo;have d0:=cell0 T1.has mcs;have d1:=cU T1.has mcs;have dx:=T1.has.cell b0 9 _ (mcm _ mcs) pre0.length (.string x) (by simp);have fx:=T1.has.free b0 9 _ (mcm _ mcs) pre0.length;have f0:=T1.has.free b T _ mcs P;have f1:=T1.has.free b T _ mcs (P + 1);rw [<- HB.o.2.2.2.2] at d0 d1;obtain ⟨N,hN⟩:∃ N,N=(c.drop j).length:=⟨_,rfl⟩;rw [<- hN] at d1;have hNk:k <= N:=by
    have q8:=congrArg List.length HX.o.2.2.1;have q9:x.data.toList.length=x.size:=Array.length_toList;rw [lla] at q8;have:=HX.o.2.2.2.2.1;omega
   have HN2:=hhh (show N <= 1000000000000 by rw [hN,List.length_drop];have:=HB.o.2.2.1;omega);have hkr:k <= r:=by have:=HX.o.2.2.2.2.1;omega
   have HN:=hhh hN;have TT1:=hhh T1;clear T1 bo hb2 c0 cx hN hmin;have hnb':¬ b0=b:=fun e=>HX.o.2.2.2.2.2.2 e.symm
   have hnb2:¬ b=b0:=HX.o.2.2.2.2.2.2;have hr8:r <= 41000:=by have:=HT.o.2.2.2;have:=HB.o.2.1;have:=HB.o.2.2.1;omega
   by_cases hrx:r < x.size
   ·have hkr2:k=r:=by have:=HX.o.2.2.2.2.1;omega
    have hne:((k:Int) == (x.size:Int))=false:=by rw [bfn];omega
    have HR:=hhh (ai hkr2 hrx);clear hkr2 hrx;go_wp2;go_still_tail 8,(by kernel_rfl);go_wp2;go_roundw
    case rel =>
     have e1:c.drop (j + k)=(x.data.toList ++ (tl.map fun y=>y.data.toList).flatten).drop k:=by rw [<- HX.o.2.2.1,List.drop_drop]
     have e2:c.take (j + k)=c.take j ++ (x.extract 0 k).data.toList:=by
      rw [List.take_add,HX.o.2.2.1,dU,List.take_append_of_le_length (by have q9:x.data.toList.length=x.size:=Array.length_toList;have:=HR.o;omega)]
     have hb1:=HT.o.2.1 b mcs;have hb2:=HT.o.2.1 b0 (mcm _ mcs);refine ⟨r - k,j + k,_,[Own.row b0 9 (pre0 ++ (.string (x.extract k x.size) :: (tl.map Value.string ++ spare)))],by congr 1;omega,by have:=HT.o.2.2.2;omega,by rw [e1];exact part k (by have:=HR.o;omega) HX.o.2.1 hmx,?_,HT.o.2.1,?_⟩
     ·have t3:=(aLm (nQ TT1.o (.string (x.extract k x.size))) (c.drop (j + k)) (wrap64 ((N:Int) - (k:Int))) (by rw [List.length_drop];have h7:=HN.o;have h8:=HN2.o;rw [List.length_drop] at h7;unfold wrap64;omega)).drew
      rw [HB.o.2.2.2.2];exact t3
     ·rw [e2]
      refine jL BO.o fun i h1 h2=>?_
      exact (Below.heap_setCell _ _ _ _ (show i ≠ b by omega)).trans (Below.heap_setCell _ _ _ _ (show i ≠ b0 by omega))
    case measure=>have:=HX.o.2.2.2.2.2.1;have:=HR.o;simp [intOf];omega
   ·have hkr2:k=x.size:=by have:=HX.o.2.2.2.2.1;omega
    have hne:((k:Int) == (x.size:Int))=true:=by rw [hkr2];simp
    have HR:=hhh (ai hkr2 hrx);clear hkr2 hrx;by_cases hcap:tl.length + 1 + spare.length=1
    ·have hc1:((tl.length:Int) + 1 + (spare.length:Int))=1:=by omega
     have htl0:tl.length=0:=by omega
     have hsp0:spare.length=0:=by omega
     have HL0:=hhh (ai htl0 hsp0);go_wp2;go_still_tail 8,(by kernel_rfl);go_wp2;go_roundw
     case rel =>
      have e1:c.drop (j + k)=(x.data.toList ++ (tl.map fun y=>y.data.toList).flatten).drop x.size:=by rw [<- HX.o.2.2.1,List.drop_drop,HR.o.1]
      have e2:c.take (j + k)=c.take j ++ (x.extract 0 k).data.toList:=by
       rw [List.take_add,HX.o.2.2.1,dU,List.take_append_of_le_length (by have q9:x.data.toList.length=x.size:=Array.length_toList;have:=HR.o;omega)]
      have hb1:=HT.o.2.1 b mcs;have hb2:=HT.o.2.1 b0 (mcm _ mcs);have e3:tl=[]:=List.eq_nil_of_length_eq_zero HL0.o.1;refine ⟨r - k,j + k,.slice (some ⟨b0,pre0.length,none⟩) 0 0,[],by congr 1;omega,by have:=HT.o.2.2.2;omega,by rw [e1];exact aAn e3,?_,?_,?_⟩
      ·have t3:=(vD (nQ TT1.o (.string (x.extract k x.size))) (.slice (some ⟨b0,pre0.length,none⟩) 0 0) (c.drop (j + k)) (wrap64 ((N:Int) - (k:Int))) (by rw [List.length_drop];have h7:=HN.o;have h8:=HN2.o;rw [List.length_drop] at h7;unfold wrap64;omega)).drew
       rw [HB.o.2.2.2.2];exact Own.aA.drop (b:=[_]) (c:=[_]) t3
      ·intro y hy
       obtain rfl:y=b:=by simpa using hy
       exact hb1
      ·rw [e2]
       refine jL BO.o fun i h1 h2=>?_
       exact (Below.heap_setCell _ _ _ _ (show i ≠ b by omega)).trans ((Below.heap_setCell _ _ _ _ (show i ≠ b by omega)).trans (Below.heap_setCell _ _ _ _ (show i ≠ b0 by omega)))
     case measure=>have:=HX.o.2.2.2.2.2.1;have:=HX.o.1;have:=HR.o;simp [intOf];omega
    ·go_wp2
     go_still_tail 8,(by kernel_rfl);go_wp2;go_roundw
     case rel =>
      have e1:c.drop (j + k)=(x.data.toList ++ (tl.map fun y=>y.data.toList).flatten).drop x.size:=by rw [<- HX.o.2.2.1,List.drop_drop,HR.o.1]
      have e2:c.take (j + k)=c.take j ++ (x.extract 0 k).data.toList:=by
       rw [List.take_add,HX.o.2.2.1,dU,List.take_append_of_le_length (by have q9:x.data.toList.length=x.size:=Array.length_toList;have:=HR.o;omega)]
      have hb1:=HT.o.2.1 b mcs;have hb2:=HT.o.2.1 b0 (mcm _ mcs);refine ⟨r - k,j + k,.slice (some ⟨b0,pre0.length + 1,none⟩) tl.length (tl.length + spare.length),[Own.row b0 9 (pre0 ++ (.string (x.extract k x.size) :: (tl.map Value.string ++ spare)))],by congr 1;omega,by have:=HT.o.2.2.2;omega,by rw [e1];exact aA7 HX.o.2.1 hmx,?_,HT.o.2.1,?_⟩
      ·have t3:=(vD (nQ TT1.o (.string (x.extract k x.size))) (.slice (some ⟨b0,pre0.length + 1,none⟩) tl.length (tl.length + spare.length)) (c.drop (j + k)) (wrap64 ((N:Int) - (k:Int))) (by rw [List.length_drop];have h7:=HN.o;have h8:=HN2.o;rw [List.length_drop] at h7;unfold wrap64;omega)).drew
       rw [HB.o.2.2.2.2];exact t3
      ·rw [e2]
       refine jL BO.o fun i h1 h2=>?_
       exact (Below.heap_setCell _ _ _ _ (show i ≠ b by omega)).trans ((Below.heap_setCell _ _ _ _ (show i ≠ b by omega)).trans (Below.heap_setCell _ _ _ _ (show i ≠ b0 by omega)))
     case measure=>have:=HX.o.2.2.2.2.2.1;have:=HX.o.1;have:=HR.o;simp [intOf];omega
end
end Queue
end
section
open Go.RowKit
namespace Queue
def kC (l:List ByteArray) (n i:Nat):List UInt8:=(((l.take i).map fun x=>x.data.toList).flatten).take n
theorem uB (l:List ByteArray) (n:Nat):kC l n 0=[]:=by simp [kC]
theorem aJ6 (l:List ByteArray) (n i:Nat):(kC l n i).length <= n:=by
 unfold kC;rw [List.length_take];omega
theorem aF8 (l:List ByteArray) (n:Nat):kC l n l.length=((l.map fun x=>x.data.toList).flatten).take n:=by
 unfold kC;rw [List.take_length]
theorem aDk (l:List ByteArray) (n i:Nat) (hi:i < l.length) (k:Nat) (hk:k=min (l[i]'hi).size (n - (kC l n i).length)):kC l n (i + 1)=kC l n i ++ ((l[i]'hi).extract 0 k).data.toList:=by
 have e1:kC l n (i + 1)=((((l.take i).map fun x=>x.data.toList).flatten) ++ (l[i]'hi).data.toList).take n:=by
  unfold kC;rw [List.take_succ_eq_append_getElem hi,List.map_append,List.flatten_append];simp
 have q:(l[i]'hi).data.toList.length=(l[i]'hi).size:=Array.length_toList;rw [e1,List.take_append,dU,hk];unfold kC;congr 1;rw [List.length_take];generalize (List.map (fun x=>x.data.toList) (List.take i l)).flatten.length=m;by_cases h1:m <= n
 ·rw [show min n m=m by omega,<- q,List.take_eq_take_iff]
  omega
 ·rw [show n - m=0 by omega,show min (l[i]'hi).size (n - min n m)=0 by omega]
section
variable {w:World} {b:Nat} {T:TypeId} {pre post:List Value} {lv:Value} {c:List UInt8} {h:Own.Heap}
theorem aI5 (k : Own.Has w (at_ b T pre lv c post :: h)) (q : Is c lv h) (P : Nat) (hP : P = pre.length) (n : Nat) (hn : n ≤ 10000) (hc : c.length ≤ 1000000000000) :
  Calls prog 59 #[.pointer (some ⟨b,P,none⟩),.int .i64 (n:Int)] w fun e w'=>(∃ v,e = .returned v) /\
   ∃ lv' h',Is (c.take n) lv' h' /\ Own.aA (at_ b T pre lv c post :: h) (at_ b T pre lv' (c.take n) post :: h') w w':=by
 have HL:=hhh (eQ k mcs P hP);have HK:=hhh k;have Q:=hhh q;by_cases hge:c.length <= n
 ·have HE:=hhh (List.take_of_length_le hge)
  obtain ⟨N,hN⟩:∃ N,N=c.length:=⟨_,rfl⟩;rw [<- hN] at HL hge;have hgI:(N:Int) <= (n:Int):=by omega
  clear k q hP hc hN hge;go_enter func59,ntmps59;go_wp2_with (fail);refine HL.o.mono ?_;rintro e W1 ⟨rfl,rfl⟩;go_wp2
  all_goals go_ret
  all_goals exact ⟨⟨_,rfl⟩,lv,h,HE.o.symm ▸ Q.o,by rw [HE.o];exact Own.aA.refl HK.o⟩
 ·obtain ⟨x,tl,b0,pre0,spare,rfl,rfl,hx,htl,hcx,hmx⟩:=first q (by omega)
  obtain ⟨ch,hch⟩:∃ ch,ch=x :: tl:=⟨_,rfl⟩;have hcc:c=(ch.map fun y=>y.data.toList).flatten:=by rw [hch,hcx];rfl
  have hlen:tl.length + 1=ch.length:=by rw [hch];rfl
  have hrow:pre0 ++ (.string x :: (tl.map Value.string ++ spare))=pre0 ++ (ch.map Value.string ++ spare):=by rw [hch];rfl
  rw [hrow] at k Q HK |-;rw [hlen] at k Q HK hmx |-;have c0:=cell0 k mcs;have f0:w.frozen? ⟨b,P,none⟩=false:=k.free b T _ mcs P;have f1:w.frozen? ⟨b,P + 1,none⟩=false:=k.free b T _ mcs (P + 1);have c1:=cU k mcs;rw [<- hP] at c0 c1;have t0:=vD (Own.aA.refl k) (.slice none 0 0) [] 0 rfl;rw [<- hP] at t0;have T0:=hhh t0;have HC:=hhh (ai hc (ai hcc (ai hP hn)));obtain ⟨N,hN⟩:∃ N,N=c.length:=⟨_,rfl⟩;rw [<- hN] at hge HL c1;obtain ⟨L,hL⟩:∃ L,L=ch.length:=⟨_,rfl⟩;have hgI:(n:Int) < (N:Int):=by omega
  have HM:=hhh (ai hL hmx);clear k q hx htl hcx hcc hlen hrow hc hch hN hP t0 hmx;rw [<- hL] at c0;clear hL;go_enter func59,ntmps59;go_wp2_with (fail);refine HL.o.mono ?_;rintro e W1 ⟨rfl,rfl⟩;go_wp2
  go_loopw [28] (fun x wr=>∃ (y:Int) (i:Nat) (lv':Value) (h':Own.Heap),x = .int .i64 y /\ y=(i:Int) /\ i <= L /\ Is (kC ch n i) lv' h' /\
   Own.aA (at_ b T pre (.slice (some ⟨b0,pre0.length,none⟩) ch.length (ch.length + spare.length)) c post :: [Own.row b0 9 (pre0 ++ (ch.map Value.string ++ spare))]) (at_ b T pre lv' (kC ch n i) post :: (h' ++ [Own.row b0 9 (pre0 ++ (ch.map Value.string ++ spare))])) W1 wr) (fun x _=>L - (intOf x).toNat)
  case atStart=>exact ⟨0,0,.slice none 0 0,[],rfl,rfl,by omega,by rw [uB];exact Is.none,by rw [uB];exact T0.o⟩
  case round =>
   obtain ⟨y,i,lv',h',rfl,hyi,hiL,q',ht⟩:=hrel;by_cases hi:i < L
   ·have hic:i < ch.length:=by rw [<- HM.o.1];exact hi
    obtain ⟨z,hz⟩:∃ z,z=ch[i]'hic:=⟨_,rfl⟩;have d:=ht.has.cell b0 9 _ (mcm _ (List.mem_append_right _ msr)) (pre0.length + y.toNat) (.string z) (by rw [show y.toNat=i by omega,List.getElem?_append_right (by omega),Nat.add_sub_cancel_left,List.getElem?_append_left (by rw [List.length_map];exact hic),hz];simp);have d1:=cU ht.has mcs;rw [<- HC.o.2.2.1] at d1;obtain ⟨M,hM⟩:∃ M,M=(kC ch n i).length:=⟨_,rfl⟩;have hMn:M <= n:=by rw [hM];exact aJ6 _ _ _
    obtain ⟨k,hk⟩:∃ k,k=min z.size (n - M):=⟨_,rfl⟩;have hU:=aDk ch n i hic k (by rw [<- hz,<- hM];exact hk);rw [<- hz] at hU;have HA:=hhh (fX (Own.Has.left (a:=at_ b T pre lv' (kC ch n i) post :: h') ht.has) q' P HC.o.2.2.1 (z.extract 0 k) (by rw [ByteArray.size_extract,<- hM];have:=HC.o.2.2.2;omega));have HT:=hhh (ai ht (ai q' (ai hU hk)));have hmin:min (z.size:Int) ((n:Int) - (M:Int))=(k:Int):=by omega
    have hkx:(k:Int) <= (z.size:Int):=by omega
    have hy0:0 <= y:=by omega
    have hyL:y < (L:Int):=by omega
    have hy2:y <= 9223372036854775806:=by have:=HM.o;unfold maxLen at this;omega
    have hMI:(M:Int) <= (n:Int):=by omega
    have HY:=hhh (ai hyi (ai hi hiL));rw [<- hM] at d1;clear ht q' hU hk hM hMn hz hyi hi hiL;go_wp2_with (fail);refine HA.o.mono ?_;rintro e W2 ⟨⟨v,rfl⟩,lv2,h2,q2,t2⟩;have H2:=hhh (ai q2 (HT.o.1.trans (Own.aA.frame (r:=[Own.row b0 9 (pre0 ++ (ch.map Value.string ++ spare))]) t2 HT.o.1.has)));have HU:=HT.o.2.2.1;clear q2 t2 HA;go_wp2;go_roundw
    case rel=>exact ⟨y + 1,i + 1,lv2,h2,rfl,by have:=HY.o;omega,by have:=HY.o;omega,by rw [HU];exact H2.o.1,by rw [HU];exact H2.o.2⟩
    case measure=>have:=HY.o;simp [intOf];omega
   ·have hiI:¬ y < (L:Int):=by omega
    have HE:=hhh (show kC ch n i=c.take n by rw [show i=ch.length by have:=HM.o.1;omega,aF8,<- HC.o.2.1]);have HT:=hhh (ai ht q');clear ht q' hi hiL hyi;go_wp2;go_ret;exact ⟨⟨_,rfl⟩,lv',h',HE.o ▸ HT.o.2,HE.o ▸ Own.aA.drop (b:=_ :: h') HT.o.1⟩
end
end Queue
end
end Go.Proofs.YtcjflgmcjfcodaaGreat
