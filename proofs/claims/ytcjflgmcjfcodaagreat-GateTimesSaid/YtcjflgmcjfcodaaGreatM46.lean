/- Texts of the walk, joined. -/
import Derived.Test.YtcjflgmcjfcodaaGreatM01
import Derived.Test.YtcjflgmcjfcodaaGreatM04
import Derived.Test.YtcjflgmcjfcodaaGreatM12
import Derived.Test.YtcjflgmcjfcodaaGreatM29
import Derived.Deep.QuietTactic
import Derived.Lib.Hide
import Derived.WalkKit
import Derived.WalkSpells
set_option maxRecDepth 100000
set_option maxHeartbeats 8000000
namespace Go.Proofs.Tryz end Go.Proofs.Tryz
namespace Go.Proofs.YtcjflgmcjfcodaaGreat
open Go.Proofs.Tryz
section
open Go.RowKit
namespace Pip
theorem jN (s:ByteArray) (k:Nat):(s.extract 0 k).data.toList=s.data.toList.take k:=by
 rw [ByteArray.data_extract,Array.toList_extract,List.extract_eq_take_drop];simp
theorem qD (s t:ByteArray) (h:t.size <= s.size) (w:World):Calls prog 89 #[.string s,.string t] w fun e w'=>e = .returned (.bool (decide (s.data.toList.take t.size=t.data.toList))) /\ w=w':=by
 have hg:(t.size:Int) <= (s.size:Int):=by omega
 have he:=hhh (show ((s.extract 0 t.size).toList == t.toList)=decide (s.data.toList.take t.size=t.data.toList) by
  rw [ByteArray.toList_eq,ByteArray.toList_eq,jN,Bool.eq_iff_iff,beq_iff_eq,decide_eq_true_eq])
 go_enter func89,ntmps89;go_wp2;go_ret;exact ⟨by rw [<- he.o];rfl,rfl⟩
theorem tN {a b:Own.Heap} {u v:World} (h:Own.aA a b u v) (k:Nat) (hk:v.heap.size=k) (T:TypeId) (l:List Value):Own.aA a (Own.row k T l :: b) u (v.alloc (.cells l.toArray T)):=h.bC k hk _
theorem aKe (w:World) (o:Obj):(w.alloc o).heap.size=w.heap.size + 1:=by
 show (w.heap.push o).size=_;simp
theorem aMm {fn : Func} {p u : Tmp} {ty : TypeId} (h : fn.results = #[.cell p ty, .tmp u]) (tmps : Array Value) {P : Program} (w : World) (b : Nat) (v : Value)
  (hp:tmps.getD p undef = .pointer (some ⟨b,0,none⟩)) (hl:(loadVar ty ⟨b,0,none⟩).run P w = .ok v w) :
  (results fn tmps).run P w = .ok (.tuple #[v,tmps.getD u undef]) w:=by
 rw [results_cell_tmp h,hp];simp [asAddr,Result.andThen,hl]
theorem aJs (b:ByteArray) (w:World):Calls prog 72 #[.string b] w fun e w'=>e = .returned (.tuple #[(bK b.data.toList).1.val,.int .i64 ((bK b.data.toList).2:Int)]) /\ Below w.heap.size w w':=by
 obtain ⟨f,hf⟩:∃ f,f=decide (b.data.toList.take 2=[84,82].take b.data.toList.length):=⟨_,rfl⟩;have hlen:b.data.toList.length=b.size:=rfl;have hz:(⟨#[84,82]⟩:ByteArray).size=2:=rfl
 have P1:=hhh (fun (h:(2:Int) < (b.size:Int)) u=>by
  have h1:=qD b ((⟨#[84,82]⟩:ByteArray).extract 0 2) (by rw [ByteArray.size_extract,hz];omega) u;rw [jN,ByteArray.size_extract,hz,show min 2 2 - 0=2 from rfl,show ([84,82]:List UInt8).take 2=[84,82].take b.data.toList.length by rw [List.take_of_length_le (l:=[84,82]) (i:=b.data.toList.length) (by simp;omega)];rfl,<- hf] at h1
  exact h1)
 have P2:=hhh (fun (h:(b.size:Int) <= 2) u=>by
  have h1:=qD b ((⟨#[84,82]⟩:ByteArray).extract 0 b.size) (by rw [ByteArray.size_extract,hz];omega) u;rw [jN,ByteArray.size_extract,hz,show min b.size 2 - 0=b.size by omega,<- hlen,show b.data.toList.take b.data.toList.length=b.data.toList.take 2 by rw [List.take_of_length_le (Nat.le_refl _),List.take_of_length_le (by omega)]] at h1;rw [<- hf,hlen] at h1
  exact h1)
 have M1:=hhh (fun h:decide (b.data.toList.take 2=[84,82].take b.data.toList.length)=false=>(show bK b.data.toList=(Setup.zero,2) by
  unfold bK;rw [ifp (by simpa using h)]))
 have M2:=hhh (fun (h:decide (b.data.toList.take 2=[84,82].take b.data.toList.length)=true) (h8:b.size < 8)=>(show bK b.data.toList=(Setup.zero,3) by
  unfold bK;rw [ifn (by simpa using h),ifp (by rw [hlen];exact h8)]))
 have M3:=hhh (fun (h:decide (b.data.toList.take 2=[84,82].take b.data.toList.length)=true) (h8:¬ b.size < 8)=>(show bK b.data.toList=if right (cQ b.data.toList)=true then (cQ b.data.toList,0) else (Setup.zero,2) by
  unfold bK;rw [ifn (by simpa using h),ifn (by rw [hlen];exact h8)]))
 have HF:=hhh hf;have B0:=hhh (fun o=>(Below.refl w.heap.size w).alloc (Nat.le_refl _) o)
 have Fin := hhh (fun (tmps : Array Value) (W : World) (cs : Array Value) (e : Int) (R : Setup × Nat) (h1 : tmps.getD 2 undef = .pointer (some ⟨w.heap.size, 0, none⟩)) (h2 : tmps.getD 3 undef = .int .i64 e)
   (hg:W.heap[w.heap.size]? = some (.cells cs 28 (0,0))) (hs:cs.size=5) (hb:Below w.heap.size w W) (hr:Value.tuple #[.agg cs,.int .i64 e] = .tuple #[R.1.val,.int .i64 (R.2:Int)]) =>
   (show bodyPost prog Tryz.f72 (fun r w'=>r = .returned (.tuple #[R.1.val,.int .i64 (R.2:Int)]) /\ Below w.heap.size w w') Exit.ret ⟨tmps,[]⟩ W by
    refine bodyPost_ret (aMm rfl _ _ _ (.agg cs) h1 (run_loadVar_row W _ 28 28 cs (0,0) _ hg underlying28 rfl (by rw [hs];kernel_rfl))) rfl ?_;rw [h2]
    exact ⟨by rw [hr],hb⟩))
 clear hf hlen hz;go_enter func72,ntmps72;go_wp2_with (fail)
 ·refine (P1.o h _).mono ?_
  rintro e w1 ⟨rfl,rfl⟩
  cases f
  ·go_wp2
   refine Fin.out _ _ _ _ _ rfl rfl (heap_alloc_new _ _) rfl (B0.o _) ?_;rw [M1.o HF.o.symm];rfl
  ·by_cases h8:b.size < 8
   ·have q8:(b.size:Int) < 8:=by omega
    go_wp2;refine Fin.out _ _ _ _ _ rfl rfl (heap_alloc_new _ _) rfl (B0.o _) ?_;rw [M2.o HF.o.symm h8];rfl
   ·have q8:¬ (b.size:Int) < 8:=by omega
    have i2:(2:Int) < (b.size:Int):=by omega
    have i3:(3:Int) < (b.size:Int):=by omega
    have i4:(4:Int) < (b.size:Int):=by omega
    have i5:(5:Int) < (b.size:Int):=by omega
    have i6:(6:Int) < (b.size:Int):=by omega
    have i7:(7:Int) < (b.size:Int):=by omega
    have hget:∀ (j:Nat) (h:j < b.size),((b[j].toNat:Nat):Int)=dI b.data.toList j:=fun j h=>by
     unfold dI;rw [List.getD_eq_getElem?_getD,List.getElem?_eq_getElem (by exact h)];rfl
    have hlt:∀ j,0 <= dI b.data.toList j /\ dI b.data.toList j < 256:=fun j=>by
     have:=(b.data.toList.getD j 0).toNat_lt;unfold dI;omega
    have hw:∀ j,wrap64 (dI b.data.toList j)=dI b.data.toList j:=fun j=>by have:=hlt j;unfold wrap64;omega
    have hor:bits .or .i64 (wrap64 (dI b.data.toList 5 * 256)) (dI b.data.toList 6)=dI b.data.toList 5 * 256 + dI b.data.toList 6:=by
     have h5:=hlt 5;have h6:=hlt 6;rw [show wrap64 (dI b.data.toList 5 * 256)=dI b.data.toList 5 * 256 by unfold wrap64;omega];rw [bits_join .i64 40 (by decide) (Int64.small 40 (by decide)) 8 _ _ (by omega) (by omega) (by omega) (by omega) (by omega) (by omega)]
    have Hget:=hhh hget;have Hw:=hhh hw;have Hor:=hhh hor;have HRt:=hhh (fun u=>nM (cQ b.data.toList) u);unfold Setup.val cQ at HRt;simp only at HRt;clear hget hlt hw hor;go_wp2_with (fail);go_region;simp only [Hget.o,Hw.o,Hor.o];have HM3:=hhh (M3.o HF.o.symm h8);unfold cQ at HM3;generalize dI b.data.toList 2=x2 at HRt HM3 |-;generalize dI b.data.toList 3=x3 at HRt HM3 |-;generalize dI b.data.toList 4=x4 at HRt HM3 |-;generalize dI b.data.toList 5 * 256 + dI b.data.toList 6=x5 at HRt HM3 |-;generalize dI b.data.toList 7=x7 at HRt HM3 |-;generalize right ⟨x2,x3,x4,x5,x7⟩=rt at HRt HM3;clear M1 M2 M3 Hget Hw Hor P1 P2;have T0:=hhh ((tN (tN (Own.aA.refl (Own.Has.nil w)) w.heap.size rfl 28 [.int .i64 0,.int .i64 0,.int .i64 0,.int .i64 0,.int .i64 0]) (w.heap.size + 1) (by rw [aKe]) 28 [.int .i64 x2,.int .i64 x3,.int .i64 x4,.int .i64 x5,.int .i64 x7]).drew);go_wp2_with (fail);refine (HRt.o _).mono ?_;rintro e w1 ⟨rfl,b1⟩;have T1:=hhh (T0.o.trans (Own.aA.aJ T0.o.has b1));have c0:=T1.o.has.cell (w.heap.size + 1) _ _ mcs 0 _ rfl;have c1:=T1.o.has.cell (w.heap.size + 1) _ _ mcs 1 _ rfl;have c2:=T1.o.has.cell (w.heap.size + 1) _ _ mcs 2 _ rfl;have c3:=T1.o.has.cell (w.heap.size + 1) _ _ mcs 3 _ rfl;have c4:=T1.o.has.cell (w.heap.size + 1) _ _ mcs 4 _ rfl;have d0:=T1.o.has.cell w.heap.size _ _ (mcm _ mcs) 0 _ rfl;have d1:=T1.o.has.cell w.heap.size _ _ (mcm _ mcs) 1 _ rfl;have d2:=T1.o.has.cell w.heap.size _ _ (mcm _ mcs) 2 _ rfl;have d3:=T1.o.has.cell w.heap.size _ _ (mcm _ mcs) 3 _ rfl;have d4:=T1.o.has.cell w.heap.size _ _ (mcm _ mcs) 4 _ rfl;have f0:=T1.o.has.free w.heap.size _ _ (mcm _ mcs) 0;have f1:=T1.o.has.free w.heap.size _ _ (mcm _ mcs) 1;have f2:=T1.o.has.free w.heap.size _ _ (mcm _ mcs) 2;have f3:=T1.o.has.free w.heap.size _ _ (mcm _ mcs) 3;have f4:=T1.o.has.free w.heap.size _ _ (mcm _ mcs) 4
    have TS := hhh (fun a0 a1 a2 a3 a4 : Int => (show Own.aA [] (Own.row (w.heap.size + 1) 28 [.int .i64 x2, .int .i64 x3, .int .i64 x4, .int .i64 x5, .int .i64 x7] :: Own.row w.heap.size 28 [.int .i64 a0, .int .i64 a1, .int .i64 a2, .int .i64 a3, .int .i64 a4] :: []) w
      (((((w1.setCell ⟨w.heap.size,0,none⟩ (.int .i64 a0)).setCell ⟨w.heap.size,1,none⟩ (.int .i64 a1)).setCell ⟨w.heap.size,2,none⟩ (.int .i64 a2)).setCell ⟨w.heap.size,3,none⟩ (.int .i64 a3)).setCell ⟨w.heap.size,4,none⟩ (.int .i64 a4)) from
     Own.aA.setAt [_] (Own.aA.setAt [_] (Own.aA.setAt [_] (Own.aA.setAt [_] (Own.aA.setAt [_] T1.o 0 (.int .i64 a0) (by simp)) 1 (.int .i64 a1) (by simp)) 2 (.int .i64 a2) (by simp)) 3 (.int .i64 a3) (by simp)) 4 (.int .i64 a4) (by simp)))
    cases rt
    ·go_wp2
     refine Fin.out _ _ _ _ _ rfl rfl ((TS.out _ _ _ _ _).has.here (w.heap.size,_) (mcm _ mcs)) rfl ((TS.out _ _ _ _ _).below (fun x hx=>by cases hx) (Nat.le_refl _)) ?_;rw [HM3.o];rfl
    ·go_wp2
     refine Fin.out _ _ _ _ _ rfl rfl ((TS.out _ _ _ _ _).has.here (w.heap.size,_) (mcm _ mcs)) rfl ((TS.out _ _ _ _ _).below (fun x hx=>by cases hx) (Nat.le_refl _)) ?_;rw [HM3.o];rfl
 ·refine (P2.o h _).mono ?_
  rintro e w1 ⟨rfl,rfl⟩
  cases f
  ·go_wp2
   refine Fin.out _ _ _ _ _ rfl rfl (heap_alloc_new _ _) rfl (B0.o _) ?_;rw [M1.o HF.o.symm];rfl
  ·have q8:(b.size:Int) < 8:=by omega
   go_wp2;refine Fin.out _ _ _ _ _ rfl rfl (heap_alloc_new _ _) rfl (B0.o _) ?_;rw [M2.o HF.o.symm (by omega)];rfl
end Pip
end
end Go.Proofs.YtcjflgmcjfcodaaGreat
