/- Texts of the walk, joined. -/
import Derived.Test.YtjfblahlkjopcaaGreatM05
import Derived.Test.YtjfblahlkjopcaaGreatM07
import Derived.Test.YtjfblahlkjopcaaGreatM08
import Derived.Deep.QuietTactic
import Derived.Lib.Hide
import Derived.OpenShut
import Derived.StillTailTactics
import Derived.Test.YtjfblahlkjopcaaGreatProg
set_option maxRecDepth 100000
set_option maxHeartbeats 8000000
namespace Go.Proofs.YtjfblahlkjopcaaGreat
section
open Go.RowKit
namespace Queue
def Is (c:List UInt8) (lv:Value) (h:Own.Heap):Prop :=
 ∃ chunks:List ByteArray,Own.Slc 9 (chunks.map Value.string) lv h /\ c=(chunks.map fun x=>x.data.toList).flatten /\ ∀ x ∈ chunks,x.size ≠ 0
theorem Is.none:Is [] (.slice none 0 0) []:=⟨[],Own.Slc.bare _ rfl,rfl,by simp⟩
theorem few (chunks:List ByteArray) (h:∀ x ∈ chunks,x.size ≠ 0):chunks.length <= ((chunks.map fun x=>x.data.toList).flatten).length:=by
 induction chunks with
 | nil=>simp
 | cons x l ih =>
  have h1:=h x mcs;have h2:=ih fun y hy=>h y (mcm _ hy)
  rw [List.map_cons,List.flatten_cons,List.length_append,List.length_cons];have q:x.data.toList.length=x.size:=Array.length_toList;omega
abbrev at_ (b:Nat) (T:TypeId) (pre:List Value) (lv:Value) (c:List UInt8) (post:List Value):Nat × Obj:=Own.row b T (pre ++ (lv :: .int .i64 (c.length:Int) :: post))
section
variable {w:World} {b:Nat} {T:TypeId} {pre post:List Value} {lv:Value} {c:List UInt8} {h:Own.Heap}
theorem cell0 {R:Own.Heap} (k:Own.Has w R) (hm:at_ b T pre lv c post ∈ R):w.cell? ⟨b,pre.length,none⟩=some lv :=
 k.cell b T _ hm pre.length lv (by simp)
theorem cell1 {R:Own.Heap} (k:Own.Has w R) (hm:at_ b T pre lv c post ∈ R):w.cell? ⟨b,pre.length + 1,none⟩=some (.int .i64 (c.length:Int)) :=
 k.cell b T _ hm (pre.length + 1) _ (by simp)
theorem turn01 {a R : Own.Heap} {u v : World} (t : Own.Turn a (at_ b T pre lv c post :: R) u v) (lv' : Value) (c' : List UInt8) (n : Int) (hn : n = (c'.length : Int)) :
  Own.Turn a (at_ b T pre lv' c' post :: R) u ((v.setCell ⟨b,pre.length,none⟩ lv').setCell ⟨b,pre.length + 1,none⟩ (.int .i64 n)):=by
 subst hn;have t2:=(t.set pre.length lv' (by simp)).set (pre.length + 1) (.int .i64 (c'.length:Int)) (by simp);have e:((pre ++ (lv :: .int .i64 (c.length:Int) :: post)).set pre.length lv').set (pre.length + 1) (.int .i64 (c'.length:Int))=pre ++ (lv' :: .int .i64 (c'.length:Int) :: post):=by
  rw [List.set_append_right _ _ (by omega),Nat.sub_self,List.set_append_right _ _ (by omega),Nat.add_sub_cancel_left];rfl
 rw [e] at t2;exact t2
theorem len_any {R : Own.Heap} (k : Own.Has w R) (hm : at_ b T pre lv c post ∈ R) (P : Nat) (hP : P = pre.length) :
  Calls Tryz.prog 69 #[.pointer (some ⟨b,P,none⟩)] w fun e w'=>e = .returned (.int .i64 (c.length:Int)) /\ w'=w:=by
 have c1:=cell1 k hm;rw [<- hP] at c1;clear hP;go_enter Tryz.func69,Tryz.ntmps69;go_wp2;go_ret;exact ⟨rfl,rfl⟩
theorem add_any (k : Own.Has w (at_ b T pre lv c post :: h)) (q : Is c lv h) (P : Nat) (hP : P = pre.length) (s : ByteArray) (hs : c.length + s.size ≤ 1000000000000) :
  Calls Tryz.prog 89 #[.pointer (some ⟨b,P,none⟩),.string s] w fun e w'=>(∃ v,e = .returned v) /\
   ∃ lv' h',Is (c ++ s.data.toList) lv' h' /\ Own.Turn (at_ b T pre lv c post :: h) (at_ b T pre lv' (c ++ s.data.toList) post :: h') w w':=by
 have hk:=k;obtain ⟨chunks,hs1,hs2,hs3⟩:=q;have c0:=cell0 k mcs;have c1:=cell1 k mcs;rw [<- hP] at c0 c1;have HS:=hhh hs;by_cases h0:s.size=0
 ·have e0:s.toList.isEmpty=true:=by
   rw [ByteArray.toList_eq,List.isEmpty_iff];exact List.eq_nil_of_length_eq_zero (by rw [Array.length_toList];exact h0)
  have E0:=hhh (show s.data.toList=[] from List.eq_nil_of_length_eq_zero (by rw [Array.length_toList];exact h0));have HQ:=hhh hs1;have HK:=hhh hk;clear h0 hs1 hs hk k hP;go_enter Tryz.func89,Tryz.ntmps89;go_wp2
  all_goals refine bodyPost_ret (results_none rfl _ _ _) rfl ?_
  all_goals
   refine ⟨⟨_,rfl⟩,lv,h,⟨chunks,HQ.o,?_,hs3⟩,?_⟩
   ·rw [E0.o,hs2];simp
   ·rw [E0.o,List.append_nil]
    exact Own.Turn.refl HK.o
 ·have e0:s.toList.isEmpty=false:=by
   rw [ByteArray.toList_eq,List.isEmpty_eq_false_iff];intro e;have q:s.data.toList.length=s.size:=Array.length_toList;rw [e] at q;exact h0 q.symm
  obtain ⟨i0,hi,hz0,hz1,hz2⟩:=info_parts (P:=Tryz.prog) (e:=9) (z:=.string ⟨#[]⟩) (size:=1) (bytes:=16) (by kernel_rfl);have HL:=hhh (show chunks.length <= c.length by rw [hs2];exact few chunks hs3);obtain ⟨a0,cp,e1⟩:=hs1.len;subst e1;rw [List.length_map] at hs1 hk c0;clear k;have HH:=hhh (And.intro hs1 (And.intro hs2 hs3));have Hi:=hhh (And.intro hi (And.intro hz0 (And.intro hz1 hz2)));have HP:=hhh hP;clear hi hz0 hz1 hz2 hs hs2 hs3 hs1 hP;go_enter Tryz.func89,Tryz.ntmps89;go_wp2_with (at_builtin;go_loud (refine Own.wpList_append_one rfl _ _ 36 rfl 9 i0 (.string ⟨#[]⟩) 16 Tryz.underlying36 Hi.o.1 Hi.o.2.1 Hi.o.2.2.1 Hi.o.2.2.2 rfl _ _ chunks.length (List.length_map ..) h [at_ b T pre (.slice a0 _ cp) c post] rfl HH.o.1 (Own.Has.swap (a:=[_]) hk) (.string s) rfl rfl ?c1 ?c2 ?_))
  case c1=>have:=HL.o;have:=HS.o;simp only [maxLen];omega
  case c2=>have:=HL.o;have:=HS.o;omega
  intro ad' c' h' w1 hs' ht';have hk1:Own.Has w1 (at_ b T pre (.slice a0 chunks.length cp) c post :: h'):=ht'.has.swap;have d1:=cell1 hk1 mcs;have f0:w1.frozen? ⟨b,P,none⟩=false:=hk1.free b T _ mcs P;have f1:w1.frozen? ⟨b,P + 1,none⟩=false:=hk1.free b T _ mcs (P + 1);have d0:=cell0 hk1 mcs;rw [<- HP.o] at d0 d1;go_wp2;go_end0;have hsz:(s.size:Int)=(s.data.toList.length:Int):=by rw [Array.length_toList];rfl
  refine ⟨⟨_,rfl⟩,.slice ad' (chunks.length + 1) c',h',⟨chunks ++ [s],by simpa using hs',?_,?_⟩,?_⟩
  ·rw [List.map_append,List.flatten_append,<- HH.o.2.1];simp
  ·intro x hx
   rcases List.mem_append.1 hx with h1 | h1
   ·exact HH.o.2.2 x h1
   ·rw [List.mem_singleton.1 h1];exact h0
  ·have t1:=ht'.perm List.perm_append_comm List.perm_append_comm
   have t2:=turn01 t1 (.slice ad' (chunks.length + 1) c') (c ++ s.data.toList) (wrap64 ((c.length:Int) + (s.size:Int))) (by have:=HS.o;rw [List.length_append];unfold wrap64;omega);rw [HP.o,List.length_map];exact t2
end
end Queue
end
section
open Go.RowKit
namespace Queue
theorem toList_extract_to (x:ByteArray) (k:Nat):(x.extract 0 k).data.toList=x.data.toList.take k:=by
 rw [ByteArray.data_extract,Array.toList_extract];simp
theorem first {c : List UInt8} {lv : Value} {h : Own.Heap} (q : Is c lv h) (hc : 0 < c.length) : ∃ (x : ByteArray) (tl : List ByteArray) (b : Nat) (pre spare : List Value),
  lv = .slice (some ⟨b,pre.length,none⟩) (tl.length + 1) (tl.length + 1 + spare.length) /\ h=[Own.row b 9 (pre ++ (.string x :: (tl.map Value.string ++ spare)))] /\ x.size ≠ 0 /\ (∀ y ∈ tl,y.size ≠ 0) /\
  c=x.data.toList ++ (tl.map fun y=>y.data.toList).flatten /\ tl.length + 1 + spare.length <= maxLen:=by
 obtain ⟨chunks,hs,hcc,hne⟩:=q
 cases chunks with
 | nil=>rw [hcc] at hc;simp at hc
 | cons x tl =>
  generalize hxs:(x :: tl).map Value.string=xs at hs
  cases hs with
  | bare a h0=>rw [h0] at hxs;simp at hxs
  | row b pre spare hm =>
   subst hxs;refine ⟨x,tl,b,pre,spare,by simp,by simp,hne x mcs,fun y hy=>hne y (mcm _ hy),by rw [hcc];simp,by simpa using hm⟩
section
variable {w:World} {b:Nat} {T:TypeId} {pre post:List Value} {lv:Value} {c:List UInt8} {h:Own.Heap}
end
end Queue
end
section
open Go.RowKit
namespace Queue
def upto (l:List ByteArray) (n i:Nat):List UInt8:=(((l.take i).map fun x=>x.data.toList).flatten).take n
theorem upto_zero (l:List ByteArray) (n:Nat):upto l n 0=[]:=by simp [upto]
theorem upto_le (l:List ByteArray) (n i:Nat):(upto l n i).length <= n:=by
 unfold upto;rw [List.length_take];omega
theorem upto_all (l:List ByteArray) (n:Nat):upto l n l.length=((l.map fun x=>x.data.toList).flatten).take n:=by
 unfold upto;rw [List.take_length]
theorem upto_succ (l:List ByteArray) (n i:Nat) (hi:i < l.length) (k:Nat) (hk:k=min (l[i]'hi).size (n - (upto l n i).length)):upto l n (i + 1)=upto l n i ++ ((l[i]'hi).extract 0 k).data.toList:=by
 have e1:upto l n (i + 1)=((((l.take i).map fun x=>x.data.toList).flatten) ++ (l[i]'hi).data.toList).take n:=by
  unfold upto;rw [List.take_succ_eq_append_getElem hi,List.map_append,List.flatten_append];simp
 have q:(l[i]'hi).data.toList.length=(l[i]'hi).size:=Array.length_toList;rw [e1,List.take_append,toList_extract_to,hk];unfold upto;congr 1;rw [List.length_take];generalize (List.map (fun x=>x.data.toList) (List.take i l)).flatten.length=m;by_cases h1:m <= n
 ·rw [show min n m=m by omega,<- q,List.take_eq_take_iff]
  omega
 ·rw [show n - m=0 by omega,show min (l[i]'hi).size (n - min n m)=0 by omega]
section
variable {w:World} {b:Nat} {T:TypeId} {pre post:List Value} {lv:Value} {c:List UInt8} {h:Own.Heap}
theorem cut_any (k : Own.Has w (at_ b T pre lv c post :: h)) (q : Is c lv h) (P : Nat) (hP : P = pre.length) (n : Nat) (hn : n ≤ 10000) (hc : c.length ≤ 1000000000000) :
  Calls Tryz.prog 72 #[.pointer (some ⟨b,P,none⟩),.int .i64 (n:Int)] w fun e w'=>(∃ v,e = .returned v) /\
   ∃ lv' h',Is (c.take n) lv' h' /\ Own.Turn (at_ b T pre lv c post :: h) (at_ b T pre lv' (c.take n) post :: h') w w':=by
 have HL:=hhh (len_any k mcs P hP);have HK:=hhh k;have Q:=hhh q;by_cases hge:c.length <= n
 ·have HE:=hhh (List.take_of_length_le hge)
  obtain ⟨N,hN⟩:∃ N,N=c.length:=⟨_,rfl⟩;rw [<- hN] at HL hge;have hgI:(N:Int) <= (n:Int):=by omega
  clear k q hP hc hN hge;go_enter Tryz.func72,Tryz.ntmps72;go_wp2_with (fail);refine HL.o.mono ?_;rintro e W1 ⟨rfl,rfl⟩;go_wp2
  all_goals go_ret
  all_goals exact ⟨⟨_,rfl⟩,lv,h,HE.o.symm ▸ Q.o,by rw [HE.o];exact Own.Turn.refl HK.o⟩
 ·obtain ⟨x,tl,b0,pre0,spare,rfl,rfl,hx,htl,hcx,hmx⟩:=first q (by omega)
  obtain ⟨ch,hch⟩:∃ ch,ch=x :: tl:=⟨_,rfl⟩;have hcc:c=(ch.map fun y=>y.data.toList).flatten:=by rw [hch,hcx];rfl
  have hlen:tl.length + 1=ch.length:=by rw [hch];rfl
  have hrow:pre0 ++ (.string x :: (tl.map Value.string ++ spare))=pre0 ++ (ch.map Value.string ++ spare):=by rw [hch];rfl
  rw [hrow] at k Q HK |-;rw [hlen] at k Q HK hmx |-;have c0:=cell0 k mcs;have f0:w.frozen? ⟨b,P,none⟩=false:=k.free b T _ mcs P;have f1:w.frozen? ⟨b,P + 1,none⟩=false:=k.free b T _ mcs (P + 1);have c1:=cell1 k mcs;rw [<- hP] at c0 c1;have t0:=turn01 (Own.Turn.refl k) (.slice none 0 0) [] 0 rfl;rw [<- hP] at t0;have T0:=hhh t0;have HC:=hhh (And.intro hc (And.intro hcc (And.intro hP hn)));obtain ⟨N,hN⟩:∃ N,N=c.length:=⟨_,rfl⟩;rw [<- hN] at hge HL c1;obtain ⟨L,hL⟩:∃ L,L=ch.length:=⟨_,rfl⟩;have hgI:(n:Int) < (N:Int):=by omega
  have HM:=hhh (And.intro hL hmx);clear k q hx htl hcx hcc hlen hrow hc hch hN hP t0 hmx;rw [<- hL] at c0;clear hL;go_enter Tryz.func72,Tryz.ntmps72;go_wp2_with (fail);refine HL.o.mono ?_;rintro e W1 ⟨rfl,rfl⟩;go_wp2
  go_loopw [28] (fun x wr=>∃ (y:Int) (i:Nat) (lv':Value) (h':Own.Heap),x = .int .i64 y /\ y=(i:Int) /\ i <= L /\ Is (upto ch n i) lv' h' /\
   Own.Turn (at_ b T pre (.slice (some ⟨b0,pre0.length,none⟩) ch.length (ch.length + spare.length)) c post :: [Own.row b0 9 (pre0 ++ (ch.map Value.string ++ spare))]) (at_ b T pre lv' (upto ch n i) post :: (h' ++ [Own.row b0 9 (pre0 ++ (ch.map Value.string ++ spare))])) W1 wr) (fun x _=>L - (intOf x).toNat)
  case atStart=>exact ⟨0,0,.slice none 0 0,[],rfl,rfl,by omega,by rw [upto_zero];exact Is.none,by rw [upto_zero];exact T0.o⟩
  case round =>
   obtain ⟨y,i,lv',h',rfl,hyi,hiL,q',ht⟩:=hrel;by_cases hi:i < L
   ·have hic:i < ch.length:=by rw [<- HM.o.1];exact hi
    obtain ⟨z,hz⟩:∃ z,z=ch[i]'hic:=⟨_,rfl⟩;have d:=ht.has.cell b0 9 _ (mcm _ (List.mem_append_right _ (List.mem_singleton.2 rfl))) (pre0.length + y.toNat) (.string z) (by rw [show y.toNat=i by omega,List.getElem?_append_right (by omega),Nat.add_sub_cancel_left,List.getElem?_append_left (by rw [List.length_map];exact hic),hz];simp);have d1:=cell1 ht.has mcs;rw [<- HC.o.2.2.1] at d1;obtain ⟨M,hM⟩:∃ M,M=(upto ch n i).length:=⟨_,rfl⟩;have hMn:M <= n:=by rw [hM];exact upto_le _ _ _
    obtain ⟨k,hk⟩:∃ k,k=min z.size (n - M):=⟨_,rfl⟩;have hU:=upto_succ ch n i hic k (by rw [<- hz,<- hM];exact hk);rw [<- hz] at hU;have HA:=hhh (add_any (Own.Has.left (a:=at_ b T pre lv' (upto ch n i) post :: h') ht.has) q' P HC.o.2.2.1 (z.extract 0 k) (by rw [ByteArray.size_extract,<- hM];have:=HC.o.2.2.2;omega));have HT:=hhh (And.intro ht (And.intro q' (And.intro hU hk)));have hmin:min (z.size:Int) ((n:Int) - (M:Int))=(k:Int):=by omega
    have hkx:(k:Int) <= (z.size:Int):=by omega
    have hy0:0 <= y:=by omega
    have hyL:y < (L:Int):=by omega
    have hy2:y <= 9223372036854775806:=by have:=HM.o;unfold maxLen at this;omega
    have hMI:(M:Int) <= (n:Int):=by omega
    have HY:=hhh (And.intro hyi (And.intro hi hiL));rw [<- hM] at d1;clear ht q' hU hk hM hMn hz hyi hi hiL;go_wp2_with (fail);refine HA.o.mono ?_;rintro e W2 ⟨⟨v,rfl⟩,lv2,h2,q2,t2⟩;have H2:=hhh (And.intro q2 (HT.o.1.trans (Own.Turn.frame (r:=[Own.row b0 9 (pre0 ++ (ch.map Value.string ++ spare))]) t2 HT.o.1.has)));have HU:=HT.o.2.2.1;clear q2 t2 HA;go_wp2;go_roundw
    case rel=>exact ⟨y + 1,i + 1,lv2,h2,rfl,by have:=HY.o;omega,by have:=HY.o;omega,by rw [HU];exact H2.o.1,by rw [HU];exact H2.o.2⟩
    case measure=>have:=HY.o;simp [intOf];omega
   ·have hiI:¬ y < (L:Int):=by omega
    have HE:=hhh (show upto ch n i=c.take n by rw [show i=ch.length by have:=HM.o.1;omega,upto_all,<- HC.o.2.1]);have HT:=hhh (And.intro ht q');clear ht q' hi hiL hyi;go_wp2;go_ret;exact ⟨⟨_,rfl⟩,lv',h',HE.o ▸ HT.o.2,HE.o ▸ Own.Turn.drop (b:=_ :: h') HT.o.1⟩
end
end Queue
end
end Go.Proofs.YtjfblahlkjopcaaGreat
