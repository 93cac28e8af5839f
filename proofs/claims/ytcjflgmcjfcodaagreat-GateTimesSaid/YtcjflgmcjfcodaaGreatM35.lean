/- Texts of the walk, joined. -/
import Derived.Test.YtcjflgmcjfcodaaGreatM05
import Derived.Deep.OwnRows
import Derived.Deep.QuietTactic
import Derived.OpenShut
import Derived.Test.YtcjflgmcjfcodaaGreatProg
set_option maxRecDepth 100000
set_option maxHeartbeats 8000000
namespace Go.Proofs.Tryz end Go.Proofs.Tryz
namespace Go.Proofs.YtcjflgmcjfcodaaGreat
open Go.Proofs.Tryz
section
open Go.RowKit
namespace Purse
def cells (p:St) (hb ob:Nat):List Value :=
 [.int .i64 (p.rest:Int),.slice (some ⟨hb,0,none⟩) p.has.length p.has.length,.slice (some ⟨ob,0,none⟩) p.has.length p.has.length]
def heap (p:St) (pb hb ob:Nat):Own.Heap:=[Own.row pb 77 (cells p hb ob),Own.row hb 3 (ints p.has),Own.row ob 4 (cJ p.opn)]
section
variable {p:St} {pb hb ob:Nat} {w:World}
theorem rX (p:St) (pb hb ob:Nat):Own.row pb 77 (cells p hb ob) ∈ heap p pb hb ob:=List.mem_cons_self ..
theorem aL3 (p:St) (pb hb ob:Nat):Own.row hb 3 (ints p.has) ∈ heap p pb hb ob:=mcm _ mcs
theorem aMd (p:St) (pb hb ob:Nat):Own.row ob 4 (cJ p.opn) ∈ heap p pb hb ob:=mcm _ (mcm _ mcs)
theorem cell0 (h:Own.Has w (heap p pb hb ob)):w.cell? ⟨pb,0,none⟩=some (.int .i64 (p.rest:Int)):=h.cell _ _ _ (rX ..) 0 _ rfl
theorem cU (h:Own.Has w (heap p pb hb ob)):w.cell? ⟨pb,1,none⟩=some (.slice (some ⟨hb,0,none⟩) p.has.length p.has.length):=h.cell _ _ _ (rX ..) 1 _ rfl
theorem oD (h:Own.Has w (heap p pb hb ob)):w.cell? ⟨pb,2,none⟩=some (.slice (some ⟨ob,0,none⟩) p.has.length p.has.length):=h.cell _ _ _ (rX ..) 2 _ rfl
theorem pX (h:Own.Has w (heap p pb hb ob)) (i:Nat) (hi:i < p.has.length):w.cell? ⟨hb,i,none⟩=some (.int .i64 ((p.has[i]'hi:Nat):Int)):=h.cell _ _ _ (aL3 ..) i _ (by simp [ints,hi])
theorem aGr (h:Own.Has w (heap p pb hb ob)) (i:Nat) (hi:i < p.opn.length):w.cell? ⟨ob,i,none⟩=some (.bool (p.opn[i]'hi)):=h.cell _ _ _ (aMd ..) i _ (by simp [cJ,hi])
theorem aKr (h:Own.Has w (heap p pb hb ob)) (i:Nat):w.frozen? ⟨hb,i,none⟩=false:=h.free _ _ _ (aL3 ..) i
theorem aK8 (h:Own.Has w (heap p pb hb ob)) (i:Nat):w.frozen? ⟨ob,i,none⟩=false:=h.free _ _ _ (aMd ..) i
theorem mJ (n:Nat) (w:World) (hn:n <= 1000000):Calls prog 61 #[.int .i64 (n:Int)] w fun e w'=>e = .returned (.int .i64 (over n:Int)) /\ w'=w:=by
 go_enter func61,ntmps61;go_wp2
 all_goals go_ret
 all_goals exact ⟨Own.dL (by unfold over;omega),rfl⟩
theorem qW (h : Own.Has w (heap p pb hb ob)) (f : p.Fits) (i : Nat) (hi : i < p.opn.length) :
  Calls prog 53 #[.pointer (some ⟨pb,0,none⟩),.int .i64 (i:Int)] w fun e w'=>e = .returned (.bool (p.opn[i]'hi)) /\ w'=w:=by
 have c2:=oD h;have ci:=aGr h i hi;have hlt:(i:Int) < (p.has.length:Int):=by rw [f.same];omega
 have hlt2:(i:Nat) < p.has.length:=by rw [f.same];omega
 go_enter func53,ntmps53;go_wp2
 all_goals go_ret
 all_goals exact ⟨rfl,rfl⟩
theorem ints_set (l:List Nat) (i x:Nat):(ints l).set i (.int .i64 (x:Int))=ints (l.set i x):=by simp [ints,List.map_set]
theorem aDj (l:List Bool) (i:Nat) (x:Bool):(cJ l).set i (.bool x)=cJ (l.set i x):=by simp [cJ,List.map_set]
theorem aK3 {a : Own.Heap} {u v : World} (t : Own.aA a (heap p pb hb ob) u v) (i x : Nat) (hi : i < p.has.length) :
  Own.aA a (heap (p.put i x) pb hb ob) u (v.setCell ⟨hb,i,none⟩ (.int .i64 (x:Int))):=by
 have:=Own.aA.setAt (A:=[_]) t i (.int .i64 (x:Int)) (by simpa [ints] using hi);rw [ints_set] at this;have e:cells (p.put i x) hb ob=cells p hb ob:=by simp [cells,St.put]
 show Own.aA a [Own.row pb _ (cells (p.put i x) hb ob),_,_] _ _;rw [e];exact this
theorem aKv {a : Own.Heap} {u v : World} (t : Own.aA a (heap p pb hb ob) u v) (i : Nat) (x : Bool) (hi : i < p.opn.length) :
  Own.aA a (heap (p.cO i x) pb hb ob) u (v.setCell ⟨ob,i,none⟩ (.bool x)):=by
 have:=Own.aA.setAt (A:=[_,_]) t i (.bool x) (by simpa [cJ] using hi);rw [aDj] at this;exact this
theorem aIe (h : Own.Has w (heap p pb hb ob)) (f : p.Fits) (i : Nat) (hi : i < p.opn.length) (hc : p.opn[i]'hi = false) :
  Calls prog 22 #[.pointer (some ⟨pb,0,none⟩),.int .i64 (i:Int)] w fun e w'=>e = .returned (.bool true) /\
   Own.aA (heap p pb hb ob) (heap (p.cO i true) pb hb ob) w w':=by
 have c2:=oD h;have ci:=aGr h i hi;rw [hc] at ci;have fi:=aK8 h i;have hlt:(i:Int) < (p.has.length:Int):=by rw [f.same];omega
 have hlt2:(i:Nat) < p.has.length:=by rw [f.same];omega
 have T1:=hhh (aKv (Own.aA.refl h) i true hi);go_enter func22,ntmps22;go_wp2
 all_goals go_ret
 all_goals exact ⟨rfl,T1.o⟩
theorem lD (h : Own.Has w (heap p pb hb ob)) (f : p.Fits) :
  Calls prog 54 #[.pointer (some ⟨pb,0,none⟩)] w fun e w'=>e = .returned (.int .i64 (p.left:Int)) /\ w'=w:=by
 have c0:=cell0 h;have c1:=cU h;have hf1:=f.room;have hf2:=f.small;have hf3:=f.few;have hf4:=f.same;have hl:=hhh (show (p.left:Int)=(p.rest:Int) - (dA p.has:Int) by unfold St.left;omega);go_enter func54,ntmps54;go_wp2;go_loopw [3,17] (fun fr k wr=>∃ (k':Nat),k = .int .i64 k' /\ fr = .int .i64 ((p.rest:Int) - dA (p.has.take k')) /\ k' <= p.has.length /\ wr=w) (fun _ k _=>p.has.length - (intOf k).toNat)
 case atStart=>exact ⟨0,rfl,by simp [dA],by omega,rfl⟩
 case round =>
  obtain ⟨k,rfl,rfl,hk,rfl⟩:=hrel;by_cases hkl:k < p.has.length
  ·have ck:=pX h k hkl
   have ht:=hhh (oL p.has k hkl);have hle:=sU p.has (k + 1);rw [ht.o] at hle;have hone:=f.one k hkl;have hlt:(k:Int) < (p.has.length:Int):=by omega
   have HO:=hhh (fun W=>mJ (p.has[k]'hkl) W (by omega));obtain ⟨O,hO⟩:∃ O,O=over (p.has[k]'hkl):=⟨_,rfl⟩;obtain ⟨A,hA⟩:∃ A,A=dA (p.has.take k):=⟨_,rfl⟩;obtain ⟨B,hB⟩:∃ B,B=dA p.has:=⟨_,rfl⟩;rw [<- hO] at HO ht hle;rw [<- hA] at ht hle |-;rw [<- hB] at hf1 hle;clear hO hA hB hone;go_wp2_with (fail);refine (HO.o _).mono ?_;rintro e W1 ⟨rfl,rfl⟩;go_wp2;go_roundw
   case rel=>refine ⟨k + 1,by go_num,?_,by omega,trivial⟩;rw [ht.o];congr 1;omega
   case measure=>simp [intOf];omega
  ·have hk2:(p.has.length:Int) <= (k:Int):=by omega
   have ht:=hhh (List.take_of_length_le (show p.has.length <= k by omega));go_wp2;go_ret;exact ⟨Own.dL (by rw [ht.o,hl.o]),rfl⟩
theorem aJ1 (h : Own.Has w (heap p pb hb ob)) (f : p.Fits) (i x : Nat) (hi : i < p.has.length) (hx : x ≤ 1000000) (ho : p.opn[i]'(f.same ▸ hi) = true) (hm : over x ≤ p.left + over (p.has[i]'hi)) :
  Calls prog 36 #[.pointer (some ⟨pb,0,none⟩),.int .i64 (i:Int),.int .i64 (x:Int)] w fun e w'=>e = .returned (.bool true) /\
   Own.aA (heap p pb hb ob) (heap (p.put i x) pb hb ob) w w':=by
 have c1:=cU h;have ci:=pX h i hi;have fi:=aKr h i;have hlt:(i:Int) < (p.has.length:Int):=by omega
 have hone:=f.one i hi;have hl:p.left <= 40000:=by unfold St.left;have:=f.small;omega
 have ho2:over (p.has[i]'hi) <= 40700:=by unfold over;omega
 have T1:=hhh (fun n=>aK3 ((Own.aA.refl h).drewN n) i x hi);have H1:=hhh (fun n=>ho ▸ qW (h.drewN n) f i (f.same ▸ hi));have H2:=hhh (fun n=>mJ x (w.drewN n) hx);have H3:=hhh (fun n=>lD (h.drewN n) f);have H4:=hhh (fun n=>mJ (p.has[i]'hi) (w.drewN n) (by omega));obtain ⟨X,hX⟩:∃ X,X=over x:=⟨_,rfl⟩;obtain ⟨Y,hY⟩:∃ X,X=over (p.has[i]'hi):=⟨_,rfl⟩;rw [<- hX] at hm H2;rw [<- hY] at hm H4 ho2;clear hX hY;have D1:=hhh (show decide ((x:Int) < 0)=false by simp);have D2:=hhh (show decide (IntKind.i64.wrap ((p.left:Int) + (Y:Int)) < (X:Int))=false by rw [IntKind.wrap_i64,decide_eq_false_iff_not];omega);go_enter func36,ntmps36;go_wp2;go_quiet (first | exact Calls.quiet_of_same (H1.o _) | exact Calls.quiet_of_same (H2.o _) | exact Calls.quiet_of_same (H3.o _) | exact Calls.quiet_of_same (H4.o _));simp only [D1.o,D2.o,Bool.or_false];go_wp2;go_ret;exact ⟨rfl,T1.o _⟩
theorem aF6 (h : Own.Has w (heap p pb hb ob)) (f : p.Fits) (i : Nat) (hi : i < p.has.length) (ho : p.opn[i]'(f.same ▸ hi) = true) :
  Calls prog 29 #[.pointer (some ⟨pb,0,none⟩),.int .i64 (i:Int)] w fun e w'=>e = .returned (.int .i64 ((700 - (p.has[i]'hi) + p.left:Nat):Int)) /\ ∃ n,w'=w.drewN n:=by
 have c1:=cU h;have ci:=pX h i hi;have hlt:(i:Int) < (p.has.length:Int):=by omega
 have hone:=f.one i hi;have hl:p.left <= 40000:=by unfold St.left;have:=f.small;omega
 have H1:=hhh (ho ▸ qW h f i (f.same ▸ hi));have H3:=hhh (fun n=>lD (h.drewN n) f);obtain ⟨M,hM⟩:∃ M:Nat,M=700 - (p.has[i]'hi):=⟨_,rfl⟩;have hM2:=hhh (show max (IntKind.i64.wrap (700 - ((p.has[i]'hi:Nat):Int))) 0=(M:Int) by rw [IntKind.wrap_i64];omega);have hM3:M <= 700:=by omega
 rw [<- hM];clear hM;go_enter func29,ntmps29;go_wp2_with (fail);refine H1.o.mono ?_;rintro e W1 ⟨rfl,rfl⟩;go_wp2;go_quiet (exact Calls.quiet_of_same (H3.o _));go_wp2
 all_goals go_ret
 all_goals
  refine ⟨Own.dL ?_,_,rfl⟩;have h2:=hM2.o;have h3:(0:Int) <= (p.has[i]'hi:Nat):=Int.natCast_nonneg _;generalize ((p.has[i]'hi:Nat):Int)=V at *
  generalize p.left=L at *
  simp only [IntKind.wrap_i64] at *
  omega
theorem aJo (h : Own.Has w (heap p pb hb ob)) (f : p.Fits) (i : Nat) (hi : i < p.has.length) (ho : p.opn[i]'(f.same ▸ hi) = true) :
  Calls prog 47 #[.pointer (some ⟨pb,0,none⟩),.int .i64 (i:Int)] w fun e w'=>e = .returned (.int .i64 ((p.has[i]'hi:Nat):Int)) /\ w'=w:=by
 have c1:=cU h;have ci:=pX h i hi;have hlt:(i:Int) < (p.has.length:Int):=by omega
 have H1:=hhh (ho ▸ qW h f i (f.same ▸ hi));go_enter func47,ntmps47;go_wp2_with (fail);refine H1.o.mono ?_;rintro e W1 ⟨rfl,rfl⟩;go_wp2;go_ret;exact ⟨rfl,rfl⟩
theorem nO (h : Own.Has w (heap p pb hb ob)) (f : p.Fits) :
  Calls prog 46 #[.pointer (some ⟨pb,0,none⟩)] w fun e w'=>e = .returned (.int .i64 (p.has.sum:Int)) /\ w'=w:=by
 have c1:=cU h;have hf3:=f.few;have hf4:=f.same;go_enter func46,ntmps46;go_wp2;go_loopw [3,13] (fun fr k wr=>∃ (k':Nat),k = .int .i64 k' /\ fr = .int .i64 ((p.has.take k').sum:Int) /\ k' <= p.has.length /\ (p.has.take k').sum <= k' * 40700 /\ wr=w) (fun _ k _=>p.has.length - (intOf k).toNat)
 case atStart=>exact ⟨0,rfl,by simp,by omega,by simp,rfl⟩
 case round =>
  obtain ⟨k,rfl,rfl,hk,hb2,rfl⟩:=hrel;by_cases hkl:k < p.has.length
  ·have ck:=pX h k hkl
   have ht:=hhh (lA p.has k hkl);have hone:=f.one k hkl;have hlt:(k:Int) < (p.has.length:Int):=by omega
   obtain ⟨A,hA⟩:∃ A,A=(p.has.take k).sum:=⟨_,rfl⟩;rw [<- hA] at ht hb2 |-;clear hA;go_wp2;go_roundw
   case rel=>refine ⟨k + 1,by go_num,?_,by omega,by rw [ht.o];omega,trivial⟩;rw [ht.o];congr 1
   case measure=>simp [intOf];omega
  ·have hk2:(p.has.length:Int) <= (k:Int):=by omega
   have ht:=hhh (List.take_of_length_le (show p.has.length <= k by omega));go_wp2;go_ret;exact ⟨Own.dL (by rw [ht.o]),rfl⟩
theorem fS (h : Own.Has w (heap p pb hb ob)) (f : p.Fits) (i : Nat) (hi : i < p.has.length) (ho : p.opn[i]'(f.same ▸ hi) = true) :
  Calls prog 43 #[.pointer (some ⟨pb,0,none⟩),.int .i64 (i:Int)] w fun e w'=>(∃ v,e = .returned v) /\
   Own.aA (heap p pb hb ob) (heap ((p.put i 0).cO i false) pb hb ob) w w':=by
 have c1:=cU h;have c2:=oD h;have ci:=pX h i hi;have co:=aGr h i (f.same ▸ hi);have fi:=aKr h i;have fo:=aK8 h i;have hlt:(i:Int) < (p.has.length:Int):=by omega
 have hne:hb ≠ ob:=by
  have:=h.once;simp [heap] at this;exact this.2
 have T1:=hhh ((aKv (aK3 (Own.aA.refl h) i 0 hi) i false (f.same ▸ hi)).drew);have H1:=hhh (ho ▸ qW h f i (f.same ▸ hi));go_enter func43,ntmps43;go_wp2_with (fail);refine H1.o.mono ?_;rintro e W1 ⟨rfl,rfl⟩;go_wp2;go_region
 all_goals go_wp2
 all_goals go_ret
 all_goals exact ⟨⟨_,rfl⟩,T1.o⟩
theorem tA (B n pb hb ob : Nat) (hB : n * 700 ≤ B) : heap ⟨B - n * 700, List.replicate n 0, List.replicate n false⟩ pb hb ob =
  [(pb,.cells #[.int .i64 ((B:Int) - (n:Int) * 700),.slice (some ⟨hb,0,none⟩) n n,.slice (some ⟨ob,0,none⟩) n n] 77 (0,0)),
   (hb,.cells (madeCells #[.int .i64 0] n) 3 (0,0)),(ob,.cells (madeCells #[.bool false] n) 4 (0,0))]:=by
 have e1:((B - n * 700:Nat):Int)=(B:Int) - (n:Int) * 700:=by omega
 rw [Own.dQ,Own.dQ];simp [heap,cells,ints,cJ,e1]
theorem eO (B n : Nat) (h1 : 1 ≤ n) (h8 : n ≤ 8) (hB : n * 700 ≤ B) (hB2 : B ≤ 40000) (w : World) :
  Calls prog 17 #[.int .i64 (B:Int),.int .i64 (n:Int)] w fun e w'=>∃ pb hb ob,e = .returned (.pointer (some ⟨pb,0,none⟩)) /\
   Own.aA [] (heap ⟨B - n * 700,List.replicate n 0,List.replicate n false⟩ pb hb ob) w w':=by
 have hmk:=run_make_row' (P:=prog) 34 3 (.int .i64 0) 8 underlying34 (by kernel_rfl) rfl .i64 .i64 n (by omega) (by omega);have hmk2:=run_make_row' (P:=prog) 67 4 (.bool false) 1 underlying67 (by kernel_rfl) rfl .i64 .i64 n (by omega) (by omega);go_enter func17,ntmps17;go_wp2;go_region
 all_goals go_wp2
 all_goals go_ret
 ·refine ⟨w.heap.size + 1 + 1,w.heap.size,w.heap.size + 1,rfl,?_⟩
  rw [tA B n _ _ _ hB];exact ((((Own.aA.refl (Own.Has.nil w)).bC _ rfl _).bC _ (by simp) _).bC _ (by simp) _).drew.perm (List.Perm.refl _) (List.Perm.cons _ (List.Perm.swap _ _ _))
 ·refine ⟨w.heap.size + 1 + 1,w.heap.size + 1,w.heap.size,rfl,?_⟩
  rw [tA B n _ _ _ hB];exact ((((Own.aA.refl (Own.Has.nil w)).bC _ rfl _).bC _ (by simp) _).bC _ (by simp) _).drew
end
end Purse
end
section
open Go.RowKit
namespace Purse
section
variable {p:St} {pb hb ob:Nat} {w:World}
theorem aGw (n:Nat) (w:World) (hn:n <= 1000000000000):Calls prog 61 #[.int .i64 (n:Int)] w fun e w'=>e = .returned (.int .i64 (over n:Int)) /\ w'=w:=by
 have HO:=hhh (show (over n:Int)=max ((n:Int) - 700) 0 by unfold over;omega);obtain ⟨V,hV⟩:∃ V:Int,V=(n:Int):=⟨_,rfl⟩;have h0:0 <= V:=by omega
 have h1:V <= 1000000000000:=by omega
 rw [<- hV] at HO |-;clear hV hn;go_enter func61,ntmps61;go_wp2
 all_goals go_ret
 all_goals exact ⟨Own.dL (by rw [HO.o];omega),rfl⟩
def St.lets (p:St) (i x:Nat):Bool:=decide (over x <= p.left + over (p.has.getD i 0))
def St.set (p:St) (i x:Nat):St:=if p.lets i x=true then p.put i x else p
theorem aIi (p:St) (f:p.Fits) (i x y:Nat) (hi:i < p.has.length) (h:p.lets i x=true):(p.put i x).lets i y=p.lets i y:=by
 unfold St.lets at *
 have e:p.has.getD i 0=p.has[i]'hi:=by simp [List.getD_eq_getElem?_getD,hi]
 have e2:(p.put i x).has.getD i 0=x:=by simp [St.put,List.getD_eq_getElem?_getD,hi]
 rw [e] at h;rw [e,e2];have h1:=uU p.has i x hi;have h2:=f.room;have h3:dA (p.put i x).has=dA (p.has.set i x):=rfl;have h4:(p.put i x).rest=p.rest:=rfl;have h5:=lB p.has i hi;refine decide_eq_decide.2 ?_;simp only [decide_eq_true_eq] at h;unfold St.left at *
 rw [h3,h4];generalize dA (p.has.set i x)=A at *
 generalize dA p.has=B at *
 generalize over x=C at *
 generalize over y=E at *
 generalize over (p.has[i]'hi)=D at *
 omega
theorem aJe (p:St) (f:p.Fits) (i x:Nat) (hi:i < p.has.length) (h:p.lets i x=true):x <= 90000:=by
 unfold St.lets at h;have e:p.has.getD i 0=p.has[i]'hi:=by simp [List.getD_eq_getElem?_getD,hi]
 rw [e] at h;simp only [decide_eq_true_eq] at h;have h1:=f.one i hi;have h2:=f.small;have h3:over x <= p.left + over (p.has[i]'hi):=h;unfold St.left at h3;unfold over at h3;omega
theorem xD (h : Own.Has w (heap p pb hb ob)) (f : p.Fits) (i x : Nat) (hi : i < p.has.length) (hx : x ≤ 1000000000000) (ho : p.opn[i]'(f.same ▸ hi) = true) :
  Calls prog 36 #[.pointer (some ⟨pb,0,none⟩),.int .i64 (i:Int),.int .i64 (x:Int)] w fun e w'=>e = .returned (.bool (p.lets i x)) /\
   Own.aA (heap p pb hb ob) (heap (p.set i x) pb hb ob) w w':=by
 have eD:p.has.getD i 0=p.has[i]'hi:=by simp [List.getD_eq_getElem?_getD,hi]
 cases hl:p.lets i x with
 | true =>
  have hs:p.set i x=p.put i x:=by unfold St.set;rw [ifp hl]
  have h9:=aJe p f i x hi hl;rw [hs];refine aJ1 h f i x hi (by omega) ho ?_;unfold St.lets at hl;rw [eD] at hl;simpa using hl
 | false =>
  have hs:p.set i x=p:=by unfold St.set;rw [ifn (by rw [hl];decide)]
  rw [hs];have hm:p.left + over (p.has[i]'hi) < over x:=by
   unfold St.lets at hl;rw [eD] at hl;simpa using hl
  have c1:=cU h;have ci:=pX h i hi;have hlt:(i:Int) < (p.has.length:Int):=by omega
  have hone:=f.one i hi;have hll:p.left <= 40000:=by unfold St.left;have:=f.small;omega
  have ho2:over (p.has[i]'hi) <= 40700:=by unfold over;omega
  have T1:=hhh (fun n=>(Own.aA.refl h).drewN n);have H1:=hhh (fun n=>ho ▸ qW (h.drewN n) f i (f.same ▸ hi));have H2:=fun n=>aGw x (w.drewN n) hx
  have H3:=hhh (fun n=>lD (h.drewN n) f);have H4:=hhh (fun n=>mJ (p.has[i]'hi) (w.drewN n) (by omega));obtain ⟨X,hX⟩:∃ X:Int,X=(over x:Int):=⟨_,rfl⟩;obtain ⟨V,hV⟩:∃ V:Int,V=(x:Int):=⟨_,rfl⟩;obtain ⟨Y,hY⟩:∃ X,X=over (p.has[i]'hi):=⟨_,rfl⟩;rw [<- hY] at hm H4 ho2;have hm2:(p.left:Int) + (Y:Int) < X:=by omega
  have D1:decide (V < 0)=false:=by rw [decide_eq_false_iff_not];omega
  have hV0:¬ V < 0:=by omega
  have D2:=hhh (show decide (IntKind.i64.wrap ((p.left:Int) + (Y:Int)) < X)=true by rw [IntKind.wrap_i64,decide_eq_true_iff];omega);simp only [<- hX,<- hV] at H2;rw [<- hV];have H2:=hhh H2;clear hX hY hV hm hm2 hx hl hs eD;go_enter func36,ntmps36;go_wp2;go_quiet (first | exact Calls.quiet_of_same (H1.o _) | exact Calls.quiet_of_same (H2.o _) | exact Calls.quiet_of_same (H3.o _) | exact Calls.quiet_of_same (H4.o _));simp only [D2.o];go_wp2;go_ret;exact ⟨rfl,T1.o _⟩
end
end Purse
end
end Go.Proofs.YtcjflgmcjfcodaaGreat
