/- Texts of the walk, joined. -/
import Derived.Test.YtcjflgmcjfcodaaGreatM05
import Derived.BigQuiet
import Derived.Deep.QuietTactic
import Derived.OpenShut
import Derived.Test.YtcjflgmcjfcodaaGreatProg
set_option maxRecDepth 100000
set_option maxHeartbeats 8000000
namespace Go.Proofs.Tryz end Go.Proofs.Tryz
namespace Go.Proofs.YtcjflgmcjfcodaaGreat
open Go.Proofs.Tryz
section
open Go.RowKit
namespace Wheel
open Purse (ints)
def Is (n:Nat) (l:List Nat) (wb:Nat) (h:Own.Heap):Prop :=
 ∃ (lv:Value) (hl:Own.Heap),Own.Slc 3 (ints l) lv hl /\ h=Own.row wb 79 [.int .i64 (n:Int),lv] :: hl
theorem bD (l:List Nat):(ints l).length=l.length:=List.length_map ..
theorem eO (n:Nat) (h8:n <= 8) (w:World):Calls prog 18 #[.int .i64 (n:Int)] w fun e w'=>∃ wb h,e = .returned (.pointer (some ⟨wb,0,none⟩)) /\ Is n [] wb h /\ Own.aA [] h w w':=by
 have hle:¬ (n:Int) < 0:=by omega
 have hle2:(n:Int) <= 100:=by omega
 go_enter func18,ntmps18;go_wp2
 all_goals first | (exfalso;omega) | skip
 all_goals go_ret
 all_goals exact ⟨w.heap.size,rfl,_,⟨.slice none 0 0,[],Own.Slc.bare _ rfl,rfl⟩,(Own.aA.refl (Own.Has.nil w)).alloc _⟩
def place (l:List Nat) (x:Nat):Int:=if x ∈ l then (l.idxOf x:Int) else -1
theorem aGk (l:List Nat) (x j:Nat) (hj:j < l.length) (h:∀ k (hk:k < l.length),k < j -> l[k]'hk ≠ x) (e:l[j]'hj=x):place l x=(j:Int):=by
 unfold place;have hm:x ∈ l:=e ▸ List.getElem_mem hj;rw [ifp hm];have h1:l.idxOf x < l.length:=List.idxOf_lt_length_iff.2 hm;have h2:l[l.idxOf x]'h1=x:=List.getElem_idxOf h1;congr 1;rcases Nat.lt_trichotomy (l.idxOf x) j with h3 | h3 | h3
 ·exact absurd h2 (h _ h1 h3)
 ·exact h3
 ·exfalso
  have h4:=List.not_of_lt_findIdx (p:=(· == x)) (xs:=l) (i:=j) h3;simp [e] at h4
theorem tJ {l : List Nat} {lv : Value} {hl : Own.Heap} (s : Own.Slc 3 (ints l) lv hl) {w : World} (hw : Own.Has w hl) (hs : l.length ≤ 1000) (x : Nat) :
  Calls prog 64 #[lv,.int .i64 (x:Int)] w fun e w'=>e = .returned (.int .i64 (place l x)) /\ w'=w:=by
 generalize hxs:ints l=xs at s
 cases s with
 | bare a h0 =>
  have hl0:l=[]:=by
   rw [<- hxs] at h0;exact List.eq_nil_of_length_eq_zero (by rw [<- bD,h0];rfl)
  subst hl0;clear hxs h0;go_enter func64,ntmps64;go_wp2;refine wp_loop_rounds 1 ?_;rw [rounds_succ];go_wp2;go_ret;exact ⟨rfl,rfl⟩
 | row b pre spare hm =>
  have hlen:xs.length=l.length:=by rw [<- hxs,bD]
  have hcell:∀ i (hi:i < l.length),w.cell? ⟨b,pre.length + i,none⟩=some (.int .i64 ((l[i]'hi:Nat):Int)):=fun i hi =>
   hw.cell b _ _ msr (pre.length + i) _ (by rw [List.getElem?_append_right (by omega),Nat.add_sub_cancel_left,List.getElem?_append_left (by omega),<- hxs];simp [ints,hi])
  rw [hlen];generalize pre.length=o at hcell |-;generalize l.length + spare.length=cp;have Hc:=hhh hcell;clear hcell hxs hw hm hlen;go_enter func64,ntmps64;go_wp2;go_loopw [8] (fun i wr=>∃ (j:Nat),i = .int .i64 j /\ j <= l.length /\ (∀ k (hk:k < l.length),k < j -> l[k]'hk ≠ x) /\ wr=w) (fun i _=>l.length - (intOf i).toNat)
  case atStart=>exact ⟨0,rfl,by omega,by intro k _ hk;omega,rfl⟩
  case round =>
   obtain ⟨j,rfl,hj,hne,rfl⟩:=hrel;have HN:=hhh hne;clear hne;by_cases hjl:j < l.length
   ·have cj:=Hc.o j hjl
    have hI:(j:Int) < (l.length:Int):=by omega
    obtain ⟨y,hy⟩:∃ y,y=l[j]'hjl:=⟨_,rfl⟩;rw [<- hy] at cj;have HY:=hhh hy;clear hy;by_cases hxy:x=y
    ·have ht:((x:Int) == (y:Int))=true:=by rw [hxy];simp
     have HX:=hhh hxy;clear hxy;go_wp2;go_ret;refine ⟨Own.dL ?_,rfl⟩;rw [aGk l x j hjl HN.o (by rw [<- HY.o];exact HX.o.symm)]
    ·have ht:((x:Int) == (y:Int))=false:=by rw [bfn];omega
     have HX:=hhh hxy;clear hxy;go_wp2;go_roundw
     case rel =>
      refine ⟨j + 1,by go_num,by omega,?_,trivial⟩;intro k hk hkj;rcases Nat.lt_or_ge k j with h1 | h1
      ·exact HN.o k hk h1
      ·have h2:k=j:=by omega
       subst h2;rw [<- HY.o];exact fun e=>HX.o e.symm
     case measure=>simp [intOf];omega
   ·have hI:(l.length:Int) <= (j:Int):=by omega
    have HJ:=hhh (show l.length <= j by omega);go_wp2;go_ret;refine ⟨Own.dL ?_,rfl⟩;unfold place;rw [ifn];intro hx;obtain ⟨k,hk,e⟩:=List.mem_iff_getElem.1 hx;exact HN.o k hk (by have:=HJ.o;omega) e
theorem vA {l : List Nat} {lv : Value} {hl : Own.Heap} (s : Own.Slc 3 (ints l) lv hl) {w : World} (hw : Own.Has w hl) (hs : l.length ≤ 1000) (x : Nat) :
  Calls prog 51 #[lv,.int .i64 (x:Int)] w fun e w'=>e = .returned (.bool (decide (x ∈ l))) /\ w'=w:=by
 have HI:=hhh (tJ s hw hs x);have hp:(0:Int) <= place l x ↔ x ∈ l:=by
  unfold place;by_cases h:x ∈ l
  ·rw [ifp h];exact ⟨fun _=>h,fun _=>by omega⟩
  ·rw [ifn h];exact ⟨fun h1=>by omega,fun h1=>absurd h1 h⟩
 have HP:=hhh hp;obtain ⟨a,c,rfl⟩:=s.len;generalize place l x=X at *
 clear hp s;go_enter func51,ntmps51;go_wp2_with (fail);refine HI.o.mono ?_;rintro e W1 ⟨rfl,rfl⟩;go_wp2;go_ret;refine ⟨Own.dW ?_,rfl⟩;simp [HP.o]
theorem fX {n : Nat} {l : List Nat} {wb : Nat} {h : Own.Heap} (i : Is n l wb h) {w : World} (hw : Own.Has w h) (hs : l.length ≤ 1000) (x : Nat) (hx : x < n) (hm : x ∉ l) :
  Calls prog 24 #[.pointer (some ⟨wb,0,none⟩),.int .i64 (x:Int)] w fun e w'=>e = .returned (.bool true) /\ ∃ h',Is n (l ++ [x]) wb h' /\ Own.aA h h' w w':=by
 obtain ⟨lv,hl,s,rfl⟩:=i;have c0:=hw.cell wb _ _ mcs 0 _ rfl;have c1:=hw.cell wb _ _ mcs 1 _ rfl;have HC:=hhh (vA s (Own.Has.right (a:=[_]) hw) hs x);rw [decide_eq_false hm] at HC;have hxn:(x:Int) < (n:Int):=by omega
 obtain ⟨a0,cp,e0⟩:=s.len;subst e0;rw [bD] at *
 obtain ⟨i0,hi,hz0,hz1,hz2⟩:=info_parts (P:=prog) (e:=3) (z:=.int .i64 0) (size:=1) (bytes:=8) (by kernel_rfl);have Hi:=hhh (ai hi (ai hz0 (ai hz1 hz2)));have HH:=hhh (ai s hs);have Hw:=hhh hw;clear hi hz0 hz1 hz2 s hs hw hm;go_enter func24,ntmps24;go_wp2_with (fail);refine HC.o.mono ?_;rintro e W1 ⟨rfl,rfl⟩;go_wp2_with (at_builtin;go_loud (refine Own.aX rfl _ _ 34 rfl 3 i0 (.int .i64 0) 8 underlying34 Hi.o.1 Hi.o.2.1 Hi.o.2.2.1 Hi.o.2.2.2 rfl (.slice a0 l.length cp) (ints l) l.length (bD l) hl [Own.row wb 79 [.int .i64 (n:Int),.slice a0 l.length cp]] rfl HH.o.1 (Own.Has.swap (a:=[_]) Hw.o) (.int .i64 (x:Int)) rfl rfl ?c1 ?c2 ?_))
 case c1=>have:=HH.o.2;simp only [maxLen];omega
 case c2=>have:=HH.o.2;omega
 intro ad' c' h' w1 hs' ht';have hk1:Own.Has w1 (Own.row wb 79 [.int .i64 (n:Int),.slice a0 l.length cp] :: h'):=ht'.has.swap;have d1:=hk1.cell wb _ _ mcs 1 _ rfl;have f1:=hk1.free wb _ _ mcs 1;have T1:=hhh ((ht'.perm List.perm_append_comm List.perm_append_comm:Own.aA (_ :: hl) (Own.row wb _ _ :: h') _ w1).set 1 (.slice ad' (l.length + 1) c') (by simp));go_wp2;go_ret;refine ⟨rfl,_,⟨_,h',?_,rfl⟩,T1.o⟩;have e:ints (l ++ [x])=ints l ++ [.int .i64 (x:Int)]:=by simp [ints]
 rw [e];exact hs'
end Wheel
end
end Go.Proofs.YtcjflgmcjfcodaaGreat
