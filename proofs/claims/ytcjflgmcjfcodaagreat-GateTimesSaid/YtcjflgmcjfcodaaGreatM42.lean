/- Texts of the walk, joined. -/
import Derived.Test.YtcjflgmcjfcodaaGreatM08
import Derived.Test.YtcjflgmcjfcodaaGreatM36
set_option maxRecDepth 100000
set_option maxHeartbeats 8000000
namespace Go.Proofs.Tryz end Go.Proofs.Tryz
namespace Go.Proofs.YtcjflgmcjfcodaaGreat
open Go.Proofs.Tryz
section
open Go.RowKit
namespace Wheel
open Purse (ints)
theorem qR {n : Nat} {l : List Nat} {wb : Nat} {h : Own.Heap} (i : Is n l wb h) {w : World} (hw : Own.Has w h) (hs : l.length ≤ 1000) (x : Nat) (hm : x ∈ l) :
  Calls prog 44 #[.pointer (some ⟨wb,0,none⟩),.int .i64 (x:Int)] w fun e w'=>e = .returned (.bool true) /\ ∃ h',Is n (l.take (l.idxOf x) ++ l.drop (l.idxOf x + 1)) wb h' /\ Own.aA h h' w w':=by
 obtain ⟨lv,hl,s,rfl⟩:=i;have hI:=tJ s (Own.Has.right (a:=[_]) hw) hs x;have hp:place l x=(l.idxOf x:Int):=by unfold place;rw [ifp hm]
 rw [hp] at hI;have hlt:l.idxOf x < l.length:=List.idxOf_lt_length_iff.2 hm;generalize l.idxOf x=k at *
 have HI:=hhh hI;clear hI hp hm;generalize hxs:ints l=xs at s
 cases s with
 | bare a h0 =>
  exfalso;have h9:l.length=0:=by rw [<- bD,hxs,h0];rfl
  omega
 | row b pre spare hmx =>
  subst hxs;have c1:=hw.cell wb _ _ mcs 1 _ rfl;have hcell:∀ j,j < (l.map fun (n:Nat)=>(n:Int)).length -> w.cell? ⟨b,pre.length + j,none⟩=some (.int .i64 ((l.map fun (n:Nat)=>(n:Int)).getD j 0)):=by
   intro j hj;have hj':j < l.length:=by simpa using hj
   refine hw.cell b 3 _ (mcm _ mcs) (pre.length + j) _ ?_;rw [List.getElem?_append_right (by omega),Nat.add_sub_cancel_left,List.getElem?_append_left (by rw [bD];exact hj')];simp [ints,hj']
  have HD:=hhh (Tryz.slices_Delete_int_cells b pre.length l.length (l.length + spare.length) k (k + 1) (l.map fun (n:Nat)=>(n:Int)) w (by simp) (by omega) (by rw [bD] at hmx;simp only [maxLen] at hmx;omega) (by omega) (by omega) hcell
   (fun j _=>hw.free b 3 _ (mcm _ mcs) (pre.length + j)))
  rw [bD] at c1 hmx HI;have hkI:(0:Int) <= (k:Int):=by omega
  have hk1:wrap64 ((k:Int) + 1)=((k + 1:Nat):Int):=by unfold wrap64;omega
  have HW:=hhh (ai hw (ai hmx hlt));clear hcell hw hmx hlt;go_enter func44,ntmps44;go_wp2_with (fail);refine HI.o.mono ?_;rintro e W1 ⟨rfl,rfl⟩;go_wp2_with (fail);refine HD.o.mono ?_;rintro e W2 ⟨rfl,q,rfl⟩;have hn:(List.map (Value.int .i64) (List.take k (List.take l.length (List.map (fun (n:Nat)=>(n:Int)) l)) ++ List.drop (k + 1) (List.take l.length (List.map (fun (n:Nat)=>(n:Int)) l)) ++ List.replicate (k + 1 - k) 0))=ints (l.take k ++ l.drop (k + 1)) ++ [.int .i64 0]:=by
   have e0:List.take l.length (List.map (fun (n:Nat)=>(n:Int)) l)=List.map (fun (n:Nat)=>(n:Int)) l:=List.take_of_length_le (by simp);rw [e0,Nat.add_sub_cancel_left];simp [ints,List.map_take,List.map_drop,Function.comp_def]
  rw [hn];obtain ⟨l2,hl2⟩:∃ l2,l2=l.take k ++ l.drop (k + 1):=⟨_,rfl⟩;have hlen:l2.length + 1=l.length:=by rw [hl2,lla,List.length_take,List.length_drop];have:=HW.o.2.2;omega
  rw [<- hl2,show l.length - (k + 1 - k)=l2.length by omega];have t0:=((Own.aA.refl HW.o.1).drewN q).perm (List.Perm.refl _) (List.Perm.swap _ _ _);have T1:=(Own.aA.aLt (r:=[_]) (ints l2 ++ [.int .i64 0]) pre (ints l) spare _ t0 (by rw [lla,bD,bD];simpa using hlen)).perm (List.Perm.refl _) (List.Perm.swap _ _ _);generalize (World.setCells _ b pre.length (ints l2 ++ [Value.int .i64 0]))=W3 at T1 |-;have d1:=T1.has.cell wb _ _ mcs 1 _ rfl;have f1:=T1.has.free wb _ _ mcs 1;have T2:=hhh (T1.set 1 (.slice (some ⟨b,pre.length,none⟩) l2.length (l.length + spare.length)) (by simp));have HL:=hhh (ai hlen hl2);clear T1 t0 hn hlen hl2 c1 HI HD;go_wp2;go_ret;refine ⟨rfl,_,⟨.slice (some ⟨b,pre.length,none⟩) l2.length (l.length + spare.length),[Own.row b 3 (pre ++ (ints l2 ++ (.int .i64 0 :: spare)))],?_,rfl⟩,?_⟩
  ·rw [<- HL.o.2]
   have:=Own.Slc.row (e:=3) (xs:=ints l2) b pre (.int .i64 0 :: spare) (by rw [bD];have:=HW.o.2.1;have:=HL.o.1;simp;omega);rw [bD,show l2.length + (Value.int .i64 0 :: spare).length=l.length + spare.length by have:=HL.o.1;simp;omega] at this;exact this
  ·have h9:=T2.o
   rw [show pre ++ (ints l2 ++ [Value.int .i64 0] ++ spare)=pre ++ (ints l2 ++ (Value.int .i64 0 :: spare)) by simp] at h9;exact h9
end Wheel
end
section
open Go.RowKit
namespace Wheel
open Purse (ints cJ)
theorem yN {e : TypeId} {xs : List Value} {v : Value} {h : Own.Heap} (s : Own.Slc e xs v h) (h0 : 0 < xs.length) : ∃ b o c, v = .slice (some ⟨b, o, none⟩) xs.length c ∧
  ∀ w,Own.Has w h -> ∀ i (hi:i < xs.length),w.cell? ⟨b,o + i,none⟩=some (xs[i]'hi):=by
 cases s with
 | bare a hx=>subst hx;simp at h0
 | row b pre spare hm =>
  refine ⟨b,pre.length,_,rfl,fun w hw i hi=>hw.cell b e _ msr (pre.length + i) _ ?_⟩;rw [List.getElem?_append_right (by omega),Nat.add_sub_cancel_left,List.getElem?_append_left hi,List.getElem?_eq_getElem hi]
theorem aH8 {w:World} {b o j:Nat} {v:Value} (h:w.cell? ⟨b,o + j,none⟩=some v):w.cell? (Addr.add ⟨b,o,none⟩ j)=some v:=by
 by_cases hj:j=0
 ·subst hj;simpa [Addr.add] using h
 ·simpa [Addr.add,hj] using h
theorem fH (l:List Bool):(cJ l).length=l.length:=List.length_map ..
theorem kG (l:List Nat) (x:Nat):l.take (l.idxOf x) ++ l.drop (l.idxOf x + 1)=l.erase x:=by
 induction l with
 | nil=>simp
 | cons y l ih =>
  by_cases h:y=x
  ·subst h;simp
  ·rw [show (y :: l).idxOf x=l.idxOf x + 1 by rw [List.idxOf_cons,show (y == x)=false from beq_eq_false_iff_ne.mpr h];rfl,List.take_succ_cons,List.drop_succ_cons,List.cons_append,ih,List.erase_cons_tail (by simpa using h)]
theorem aI3 (l:List Nat) (f:Nat -> Bool) (j:Nat) (hj:j < l.length) (h:∀ k (hk:k < l.length),k < j -> f (l[k]'hk)=false) (e:f (l[j]'hj)=true):l.find? f=some (l[j]'hj):=by
 induction l generalizing j with
 | nil=>simp at hj
 | cons y l ih =>
  cases j with
  | zero=>simp only [List.getElem_cons_zero] at e |-;rw [List.find?_cons,e]
  | succ j =>
   have h0:=h 0 (by simp) (by omega);simp only [List.getElem_cons_zero] at h0;rw [List.find?_cons,h0];simp only [List.getElem_cons_succ] at e |-;exact ih j (by simpa using hj) (fun k hk hkj=>by have:=h (k + 1) (by simpa using hk) (by omega);simpa using this) e
def aL8 (n wb:Nat) (l:List Nat) (h hr:Own.Heap) (w:World):Option Nat -> Ending -> World -> Prop
 | some x,e,w'=>e = .returned (.tuple #[.int .i64 (x:Int),.bool true]) /\ ∃ h',Is n (l.erase x ++ [x]) wb h' /\ Own.aA (h ++ hr) (h' ++ hr) w w'
 | none,e,w'=>e = .returned (.tuple #[.int .i64 0,.bool false]) /\ w'=w
theorem wF {n : Nat} {l : List Nat} {wb : Nat} {h hr : Own.Heap} {rs : List Bool} {rv : Value} (i : Is n l wb h) (sr : Own.Slc 4 (cJ rs) rv hr) {w : World} (hw : Own.Has w (h ++ hr)) (hs : l.length ≤ 1000) (hrs : rs.length ≤ 1000) :
  Calls prog 32 #[.pointer (some ⟨wb,0,none⟩),rv] w (aL8 n wb l h hr w (l.find? (fun y=>rs.getD y false))):=by
 have I:=hhh i;obtain ⟨lv,hl,s,rfl⟩:=i;have c1:=hw.cell wb 79 [.int .i64 (n:Int),lv] mcs 1 _ rfl;obtain ⟨la,lc,rfl⟩:=s.len;obtain ⟨ra,rc,rfl⟩:=sr.len;rw [bD] at c1 s;rw [fH] at sr |-
 have HL:=hhh (fun j (hj:j < l.length)=>(show ∃ x,la=some x /\ w.cell? (x.add j)=some (.int .i64 ((l[j]'hj:Nat):Int)) by
  obtain ⟨b,o,c,e,hc⟩:=yN s (by rw [bD];omega);injection e with e1 e2 e3
  subst e1;refine ⟨_,rfl,?_⟩;have:=hc w ((Own.Has.left hw).right (a:=[_])) j (by rw [bD];exact hj);refine aH8 ?_
  simpa [ints] using this))
 have HR:=hhh (fun j (hj:j < rs.length)=>(show ∃ x,ra=some x /\ w.cell? (x.add j)=some (.bool (rs[j]'hj)) by
  obtain ⟨b,o,c,e,hc⟩:=yN sr (by rw [fH];omega);injection e with e1 e2 e3
  subst e1;refine ⟨_,rfl,?_⟩;have:=hc w hw.right j (by rw [fH];exact hj);refine aH8 ?_
  simpa [cJ] using this))
 have Hw:=hhh hw;have HS:=hhh (ai hs hrs);obtain ⟨i0,hi,hz0,hz1,hz2⟩:=info_parts (P:=prog) (e:=3) (z:=.int .i64 0) (size:=1) (bytes:=8) (by kernel_rfl);have Hi:=hhh (ai hi (ai hz0 (ai hz1 hz2)));obtain ⟨F,hF⟩:∃ F,F=l.find? (fun y=>rs.getD y false):=⟨_,rfl⟩;rw [<- hF];have HF:=hhh hF;clear hi hz0 hz1 hz2 s sr hw hF;go_enter func32,ntmps32;go_wp2;go_loopw [15] (fun x wr=>∃ (j:Nat),x = .int .i64 j /\ j <= l.length /\ (∀ k (hk:k < l.length),k < j -> rs.getD (l[k]'hk) false=false) /\ wr=w) (fun x _=>l.length - (intOf x).toNat)
 case atStart=>exact ⟨0,rfl,by omega,(fun k _ hk=>by omega),rfl⟩
 case round =>
  obtain ⟨j,rfl,hj,hne,rfl⟩:=hrel;have HN:=hhh hne;clear hne;by_cases hjl:j < l.length
  ·obtain ⟨x0,hx0,hc0⟩:=HL.o j hjl
   subst hx0;have hI:(j:Int) < (l.length:Int):=by omega
   obtain ⟨y,hy⟩:∃ y,y=l[j]'hjl:=⟨_,rfl⟩;rw [<- hy] at hc0;have HY:=hhh hy;clear hy;by_cases hyl:y < rs.length
   ·obtain ⟨x1,hx1,hc1⟩:=HR.o y hyl
    subst hx1;have hyI:(y:Int) < (rs.length:Int):=by omega
    cases hb:rs[y]'hyl with
    | true =>
     rw [hb] at hc1
     have HE:=hhh (show F=some y by
      rw [HF.o,aI3 l (fun y=>rs.getD y false) j hjl (fun k hk hkj=>HN.o k hk hkj) (by rw [<- HY.o];simp [List.getD_eq_getElem?_getD,hyl,hb]),HY.o])
     have hm:y ∈ l:=by rw [HY.o];exact List.getElem_mem hjl
     have HRm:=qR I.o (Own.Has.left Hw.o) HS.o.1 y hm;rw [kG] at HRm;have HRm:=hhh HRm;have hlen:=hhh (show (l.erase y).length <= 1000 by have:=List.length_erase_le (a:=y) (l:=l);have:=HS.o.1;omega);clear hb hm;go_wp2_with (fail);refine HRm.o.mono ?_;rintro e W1 ⟨rfl,h1,i1,t1⟩;obtain ⟨lv1,hl1,s1,rfl⟩:=i1;have T1:=hhh (t1.frame Hw.o);obtain ⟨l1,hl1'⟩:∃ l1,l1=l.erase y:=⟨_,rfl⟩;rw [<- hl1'] at s1 hlen;have HL1:=hhh hl1';obtain ⟨a1,k1,rfl⟩:=s1.len;rw [bD] at s1;have d1:W1.cell? ⟨wb,1,none⟩=some (.slice a1 l1.length k1):=by
      have:=T1.o.has.cell wb 79 [.int .i64 (n:Int),.slice a1 (ints l1).length k1] mcs 1 _ rfl
      rwa [bD] at this
     have S1:=hhh s1;clear s1 t1 hl1' hc0 hc1 c1
     have P1:=hhh (show ((Own.row wb 79 [.int .i64 (n:Int),.slice a1 (ints l1).length k1] :: hl1) ++ hr).Perm (hl1 ++ (Own.row wb 79 [.int .i64 (n:Int),.slice a1 l1.length k1] :: hr)) by
      rw [bD]
      exact List.perm_middle.symm)
     have K1:=hhh (T1.o.has.perm P1.o);go_wp2_with (at_builtin;go_loud (refine Own.aX rfl _ _ 34 rfl 3 i0 (.int .i64 0) 8 underlying34 Hi.o.1 Hi.o.2.1 Hi.o.2.2.1 Hi.o.2.2.2 rfl (.slice a1 l1.length k1) (ints l1) l1.length (bD l1) hl1 (Own.row wb 79 [.int .i64 (n:Int),.slice a1 l1.length k1] :: hr) rfl S1.o K1.o (.int .i64 (y:Int)) rfl rfl ?c1 ?c2 ?_))
     case c1=>have:=hlen.o;simp only [maxLen];omega
     case c2=>have:=hlen.o;omega
     intro ad' c' h' w1 hs' ht';have T2:=hhh ((T1.o.perm (List.Perm.refl _) P1.o).trans ht');have k2:Own.Has w1 (Own.row wb 79 [.int .i64 (n:Int),.slice a1 l1.length k1] :: (h' ++ hr)):=T2.o.has.perm List.perm_middle;have e1:=k2.cell wb _ _ mcs 1 _ rfl;have f1:=k2.free wb _ _ mcs 1;have T3:=hhh ((T2.o.perm (List.Perm.refl _) List.perm_middle).set 1 (.slice ad' (l1.length + 1) c') (by simp));have S2:=hhh hs';clear k2 ht' hs' d1;go_wp2;go_ret2;rw [HE.o];show _ /\ _;refine ⟨rfl,_,⟨.slice ad' (l1.length + 1) c',h',?_,rfl⟩,?_⟩
     ·rw [<- HL1.o,show ints (l1 ++ [y])=ints l1 ++ [.int .i64 (y:Int)] by simp [ints]]
      exact S2.o
     ·exact T3.o
    | false =>
     rw [hb] at hc1;have HB:=hhh (show rs.getD y false=false by simp [List.getD_eq_getElem?_getD,hyl,hb]);clear hb;go_wp2;go_roundw
     case rel =>
      refine ⟨j + 1,by go_num,by omega,?_,trivial⟩;intro k hk hkj;rcases Nat.lt_or_ge k j with h1 | h1
      ·exact HN.o k hk h1
      ·have h2:k=j:=by omega
       subst h2;rw [<- HY.o];exact HB.o
     case measure=>simp [intOf];omega
   ·have hyI:(rs.length:Int) <= (y:Int):=by omega
    have HB:=hhh (show rs.getD y false=false by simp [List.getD_eq_getElem?_getD,List.getElem?_eq_none (show rs.length <= y by omega)]);clear hyl;go_wp2;go_roundw
    case rel =>
     refine ⟨j + 1,by go_num,by omega,?_,trivial⟩;intro k hk hkj;rcases Nat.lt_or_ge k j with h1 | h1
     ·exact HN.o k hk h1
     ·have h2:k=j:=by omega
      subst h2;rw [<- HY.o];exact HB.o
    case measure=>simp [intOf];omega
  ·have hI:(l.length:Int) <= (j:Int):=by omega
   have HE:=hhh (show F=none by
    rw [HF.o,List.find?_eq_none];intro x hx;obtain ⟨k,hk,e⟩:=List.mem_iff_getElem.1 hx;subst e;rw [HN.o k hk (by omega)]
    decide)
   go_wp2;go_ret2;rw [HE.o];exact ⟨rfl,rfl⟩
end Wheel
end
end Go.Proofs.YtcjflgmcjfcodaaGreat
