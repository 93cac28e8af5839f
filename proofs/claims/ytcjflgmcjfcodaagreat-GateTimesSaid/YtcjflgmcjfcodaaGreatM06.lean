/- Texts of the walk, joined. -/
import Derived.Test.YtcjflgmcjfcodaaGreatM01
import Derived.Test.YtcjflgmcjfcodaaGreatM05
import Derived.Deep.OwnRows
import Derived.Deep.QuietTactic
import Derived.Deep.RegionLaw
import Derived.OpenShut
import Derived.StillTailTactics
import Derived.Test.YtcjflgmcjfcodaaGreatProg
set_option maxRecDepth 100000
set_option maxHeartbeats 8000000
namespace Go.Proofs.Tryz end Go.Proofs.Tryz
namespace Go.Proofs.YtcjflgmcjfcodaaGreat
open Go.Proofs.Tryz
section
open Go.RowKit
namespace Ring
structure St where
 l:List UInt8
 first:Nat
 n:Nat
structure St.Fits (r:St):Prop where
 first:r.first < r.l.length
 n:r.n <= r.l.length
 small:r.l.length <= 10000
def St.all (r:St):List UInt8:=sO r.l r.first r.n
theorem St.eE (r:St):r.all.length=r.n:=kB ..
def bytes (l:List UInt8):List Value:=l.map fun (b:UInt8)=>.int .u8 (b.toNat:Int)
def cells (r:St) (bb:Nat):List Value:=[.slice (some ⟨bb,0,none⟩) r.l.length r.l.length,.int .i64 (r.first:Int),.int .i64 (r.n:Int)]
def heap (r:St) (rb bb:Nat):Own.Heap:=[Own.row rb 100 (cells r bb),Own.row bb 5 (bytes r.l)]
def St.push (r:St) (x:UInt8):St:=⟨r.l.set ((r.first + r.n) % r.l.length) x,r.first,r.n + 1⟩
theorem St.Fits.push {r:St} (f:r.Fits) (x:UInt8) (h:r.n < r.l.length):(r.push x).Fits :=
 ⟨by simpa [St.push] using f.first,by simp [St.push];omega,by simpa [St.push] using f.small⟩
theorem St.all_push (r:St) (x:UInt8) (h:r.n < r.l.length):(r.push x).all=r.all ++ [x]:=aEy _ _ _ _ h
theorem St.length_push (r:St) (x:UInt8):(r.push x).l.length=r.l.length:=List.length_set ..
section
variable {r:St} {rb bb:Nat} {w:World}
theorem rX (r:St) (rb bb:Nat):Own.row rb 100 (cells r bb) ∈ heap r rb bb:=List.mem_cons_self ..
theorem aF9 (r:St) (rb bb:Nat):Own.row bb 5 (bytes r.l) ∈ heap r rb bb:=mcm _ mcs
theorem cell0 (h:Own.Has w (heap r rb bb)):w.cell? ⟨rb,0,none⟩=some (.slice (some ⟨bb,0,none⟩) r.l.length r.l.length):=h.cell _ _ _ (rX ..) 0 _ rfl
theorem cU (h:Own.Has w (heap r rb bb)):w.cell? ⟨rb,1,none⟩=some (.int .i64 (r.first:Int)):=h.cell _ _ _ (rX ..) 1 _ rfl
theorem oD (h:Own.Has w (heap r rb bb)):w.cell? ⟨rb,2,none⟩=some (.int .i64 (r.n:Int)):=h.cell _ _ _ (rX ..) 2 _ rfl
theorem aKt (h:Own.Has w (heap r rb bb)) (i:Nat) (hi:i < r.l.length):w.cell? ⟨bb,i,none⟩=some (.int .u8 (((r.l[i]'hi).toNat:Nat):Int)):=h.cell _ _ _ (aF9 ..) i _ (by simp [bytes,hi])
theorem aH4 (h:Own.Has w (heap r rb bb)) (i:Nat):w.frozen? ⟨rb,i,none⟩=false:=h.free _ _ _ (rX ..) i
theorem aMg (h:Own.Has w (heap r rb bb)) (i:Nat):w.frozen? ⟨bb,i,none⟩=false:=h.free _ _ _ (aF9 ..) i
theorem aDy (l:List UInt8) (i:Nat) (x:UInt8):(bytes l).set i (.int .u8 (x.toNat:Int))=bytes (l.set i x):=by simp [bytes,List.map_set]
theorem aG2 {a : Own.Heap} {u v : World} (t : Own.aA a (heap r rb bb) u v) (f : r.Fits) (x : UInt8) (m : Int) (hm : m = (r.n : Int) + 1) :
  Own.aA a (heap (r.push x) rb bb) u ((v.setCell ⟨bb,(r.first + r.n) % r.l.length,none⟩ (.int .u8 (x.toNat:Int))).setCell ⟨rb,2,none⟩ (.int .i64 m)):=by
 have hlt:(r.first + r.n) % r.l.length < r.l.length:=Nat.mod_lt _ (by have:=f.first;omega);have t1:=Own.aA.setAt (A:=[_]) t ((r.first + r.n) % r.l.length) (.int .u8 (x.toNat:Int)) (by simpa [bytes] using hlt);rw [aDy] at t1;have t2:=Own.aA.set t1 2 (.int .i64 m) (by simp [cells]);subst hm;have e:(cells r bb).set 2 (.int .i64 ((r.n:Int) + 1))=cells (r.push x) bb:=by simp [cells,St.push]
 rw [e] at t2;exact t2
theorem lV (r:St) (j:Nat) (h:j < r.n):r.all[j]? = some (r.l.getD ((r.first + j) % r.l.length) 0):=iN _ _ _ _ h
theorem uZ (a b l:Nat):((a:Int) + (b:Int)).tmod (l:Int)=(((a + b) % l:Nat):Int):=by
 rw [Int.tmod_eq_emod_of_nonneg (by omega)];rw [<- Int.natCast_add,Int.natCast_emod]
theorem pC (a b l:Nat):((a:Int) + (b:Int)) % (l:Int)=(((a + b) % l:Nat):Int):=by
 rw [<- Int.natCast_add,Int.natCast_emod]
theorem eQ (h:Own.Has w (heap r rb bb)):Calls prog 57 #[.pointer (some ⟨rb,0,none⟩)] w fun e w'=>e = .returned (.int .i64 (r.n:Int)) /\ w'=w:=by
 have c2:=oD h;go_enter func57,ntmps57;go_wp2;go_ret;exact ⟨rfl,rfl⟩
theorem aIk (h:Own.Has w (heap r rb bb)) (f:r.Fits):Calls prog 67 #[.pointer (some ⟨rb,0,none⟩)] w fun e w'=>e = .returned (.int .i64 ((r.l.length - r.n:Nat):Int)) /\ ∃ n,w'=w.drewN n:=by
 have c0:=cell0 h;have c2:=oD h;have h1:=f.n;have h2:=f.small;have he:=hhh (show ((r.l.length - r.n:Nat):Int)=(r.l.length:Int) - (r.n:Int) by omega);go_enter func67,ntmps67;go_wp2;go_quiet (fail);go_wp2;go_ret;rw [he.o];exact ⟨Own.dL (by rw [IntKind.wrap_i64];omega),_,rfl⟩
theorem jI (h : Own.Has w (heap r rb bb)) (f : r.Fits) (s : ByteArray) (hs : s.size ≤ 1000000) (k : Nat) (hk : k = min s.size (r.l.length - r.n)) :
  Calls prog 52 #[.pointer (some ⟨rb,0,none⟩),.string s] w fun e w'=>∃ r':St,e = .returned (.int .i64 (k:Int)) /\
   r'.Fits /\ r'.l.length=r.l.length /\ r'.all=r.all ++ s.data.toList.take k /\ Own.aA (heap r rb bb) (heap r' rb bb) w w':=by
 have hh:=h;have HR:=hhh (aIk h f);have hkm:min (s.size:Int) ((r.l.length - r.n:Nat):Int)=(k:Int):=by omega
 have hk1:=hhh (show k <= s.size /\ k + r.n <= r.l.length by have:=f.n;omega);have hk2:k <= 10000:=by have:=f.small;omega
 clear hk;have Hs:=hhh hs;clear hs;go_enter func52,ntmps52;go_wp2_with (fail);refine HR.o.mono ?_;rintro e W1 ⟨rfl,n1,rfl⟩;go_wp2
 all_goals
  first
  | rw [show ((r.l.length - r.n:Nat):Int)=(k:Int) by omega]
  | rw [show (s.size:Int)=(k:Int) by omega]
 all_goals
  go_loopw [13] (fun i wr=>∃ (j:Nat) (r':St),i = .int .i64 j /\ j <= k /\ r'.Fits /\ r'.l.length=r.l.length /\ r'.n=r.n + j /\ r'.all=r.all ++ s.data.toList.take j /\ Own.aA (heap r rb bb) (heap r' rb bb) w wr) (fun i _=>k - (intOf i).toNat)
  case atStart=>exact ⟨0,r,rfl,by omega,f,rfl,rfl,by simp,(Own.aA.refl hh).drewN n1⟩
  case round =>
   obtain ⟨j,r',rfl,hj,f',hl,hn,hall,ht⟩:=hrel;by_cases hjk:j < k
   ·have hk1':=hk1.o
    have hfull:r'.n < r'.l.length:=by rw [hl,hn];omega
    have c0:=cell0 ht.has;have c1:=cU ht.has;have c2:=oD ht.has;obtain ⟨x,hx⟩:∃ x:Nat,x=(r'.first + r'.n) % r'.l.length:=⟨_,rfl⟩;have hmod:=uZ r'.first r'.n r'.l.length
    have hmod':=pC r'.first r'.n r'.l.length
    rw [<- hx] at hmod hmod';have hxl:x < r'.l.length:=by rw [hx];exact Nat.mod_lt _ (by omega)
    have Hx:=hhh hx;have hnb:¬ rb=bb:=by have h9:=ht.has.once;simp [heap] at h9;exact h9
    have hnb':¬ bb=rb:=fun e=>hnb e.symm
    clear hx;have cx:=aKt ht.has x hxl;have fx:=aMg ht.has x;have f2:=aH4 ht.has 2;have hxl2:(x:Int) < (r'.l.length:Int):=by omega
    have b1:=f'.first
    have b2:=f'.n;have b3:=f'.small;have hjs:(j:Int) < (s.size:Int):=by omega
    have hlt:(j:Int) < (k:Int):=by omega
    go_wp2;have hwrap:IntKind.i64.wrap ((r'.first:Int) + (r'.n:Int))=(r'.first:Int) + (r'.n:Int):=by rw [IntKind.wrap_i64];omega
    have hwrap2:IntKind.i64.wrap (x:Int)=(x:Int):=by rw [IntKind.wrap_i64];omega
    have hne:¬ r'.l=[]:=by intro e;rw [e] at hfull;simp at hfull
    have Hl:=hhh hl;have Hn:=hhh hn;clear hl hn;go_still_tail 23,(by kernel_rfl);change wpList _ _ _ _ _ wr.drew;go_wp2;go_roundw
    case rel =>
     have hlt2:r'.n < r'.l.length:=by omega
     refine ⟨j + 1,r'.push (s[j]'(by omega)),by go_num,by omega,f'.push _ hlt2,(St.length_push ..).trans Hl.o,by show r'.n + 1=_;rw [Hn.o];omega,?_,?_⟩
     ·rw [St.all_push _ _ hlt2,hall,Own.take_succ s j (by omega),List.append_assoc]
     ·rw [Hx.o]
      exact ht.drew.trans (aG2 (Own.aA.refl ht.drew.has) f' _ _ rfl)
    case measure=>simp [intOf];omega
   ·have hjk2:j=k:=by omega
    have hge:(k:Int) <= (j:Int):=by omega
    have HL:=hhh hl;have Hn:=hhh hn;have HJ:=hhh hjk2;clear hl hn hjk2;go_wp2;go_ret;exact ⟨r',rfl,f',HL.o,HJ.o ▸ hall,ht⟩
theorem aIz (h : Own.Has w (heap r rb bb)) (f : r.Fits) (m : Nat) (hm : m ≤ 1000000) :
  Calls prog 84 #[.pointer (some ⟨rb,0,none⟩),.int .i64 (m:Int)] w fun e w'=>e = .returned (.string ⟨(r.all.take m).toArray⟩) /\ Own.aA (heap r rb bb) (heap r rb bb) w w':=by
 have hh:=h;have HL:=hhh (fun W (hW:Own.Has W (heap r rb bb))=>eQ hW);obtain ⟨k,hk⟩:∃ k,k=min m r.n:=⟨_,rfl⟩;have HT:=hhh (show r.all.take m=r.all.take k by rw [List.take_eq_take_iff,St.eE];omega);have hk1:=hhh (show k <= r.n by omega);have b1:=f.first
 have b2:=f.n;have b3:=f.small;have hk2:k <= 10000:=by omega
 have hkm:min (max (m:Int) 0) (r.n:Int)=(k:Int):=by omega
 obtain ⟨i0,hi,hz0,hz1,hz2⟩:=info_parts (P:=prog) (e:=5) (z:=.int .u8 0) (size:=1) (bytes:=1) (by kernel_rfl);have Hm:=hhh hm;have Hk:=hhh hk;have Hi:=hhh (ai hi (ai hz0 (ai hz1 hz2)));clear hi hz0 hz1 hz2 hm hk;go_enter func84,ntmps84;go_wp2_with (fail)
 all_goals
  refine (HL.o _ hh).mono ?_;rintro e W1 ⟨rfl,rfl⟩;go_wp2
 all_goals
  first
  | rw [show (r.n:Int)=(k:Int) by omega]
  | rw [show (m:Int)=(k:Int) by omega]
 all_goals
  clear hkm;go_loopw [5,12] (fun o i wr=>∃ (j:Nat) (ad:Option Addr) (c:Nat) (ho:Own.Heap),o = .slice ad j c /\ i = .int .i64 j /\ j <= k /\ Own.Slc 5 (bytes (r.all.take j)) (.slice ad j c) ho /\ Own.aA (heap r rb bb) (ho ++ heap r rb bb) W1 wr) (fun _ i _=>k - (intOf i).toNat)
  case atStart=>exact ⟨0,none,0,[],rfl,rfl,by omega,Own.Slc.bare none (by simp [bytes]),Own.aA.refl hh⟩
  case round =>
   obtain ⟨j,ad,c,ho,rfl,rfl,hj,hs,ht⟩:=hrel;by_cases hjk:j < k
   ·have hk1':=hk1.o
    have hR:=ht.has.right;have c0:=cell0 hR;have c1:=cU hR;obtain ⟨x,hx⟩:∃ x:Nat,x=(r.first + j) % r.l.length:=⟨_,rfl⟩;have hmod:=uZ r.first j r.l.length
    have hmod':=pC r.first j r.l.length
    rw [<- hx] at hmod hmod';have hxl:x < r.l.length:=by rw [hx];exact Nat.mod_lt _ (by omega)
    have hall:=hhh (show bytes (r.all.take (j + 1))=bytes (r.all.take j) ++ [.int .u8 ((r.l[x]'hxl).toNat:Int)] by
     rw [List.take_add_one,lV r j (by omega),bytes,List.map_append];subst hx
     simp [bytes,List.getD_eq_getElem?_getD,hxl])
    have Hx:=hhh hx;clear hx;have cx:=aKt hR x hxl;have hxl2:(x:Int) < (r.l.length:Int):=by omega
    have hlt:(j:Int) < (k:Int):=by omega
    have hwrap:IntKind.i64.wrap ((r.first:Int) + (j:Int))=(r.first:Int) + (j:Int):=by rw [IntKind.wrap_i64];omega
    have hne:¬ r.l=[]:=by intro e;rw [e] at b1;simp at b1
    have Hb:=hhh (show (bytes (r.all.take j)).length=j by rw [bytes,List.length_map,List.length_take,St.eE];omega);go_wp2;go_region_law (refine Own.gH rfl _ _ 55 rfl 5 i0 (.int .u8 0) 1 underlying55 Hi.o.1 Hi.o.2.1 Hi.o.2.2.1 Hi.o.2.2.2 rfl _ _ j Hb.o ho (heap r rb bb) rfl hs (((Own.aA.refl ht.has).aD _).drew.has) wr.heap.size (.int .u8 ((r.l[x]'hxl).toNat:Int)) rfl ?c1 rfl ?c2 ?c3 ?_;(case c1=>simp);(case c2=>(simp only [maxLen];omega));(case c3=>omega);intro ad' c' h' w' hs' ht')
    all_goals
     go_wp2;go_roundw
     case rel =>
      refine ⟨j + 1,ad',c',h',rfl,by go_num,by omega,by rw [hall.o];exact hs',?_⟩;exact ((ht.aD _).drew).trans ht'
     case measure=>simp [intOf];omega
   ·have hjk2:j=k:=by omega
    have hge:(k:Int) <= (j:Int):=by omega
    have HS:=hhh (Own.Slc.jG (P:=prog) (r.all.take j) 55 9 underlying55 underlying5 underlying9 hs ht.has.left);have HJ:=hhh hjk2;clear hjk2;have hrun:=HS.o;go_wp2;go_ret;exact ⟨Own.aZ (by rw [HT.o,HJ.o]),ht.forget⟩
end
end Ring
end
section
open Go.RowKit
namespace Ring
def St.drop (r:St) (k:Nat):St:=⟨r.l,(r.first + k) % r.l.length,r.n - k⟩
theorem St.Fits.drop {r:St} (f:r.Fits) (k:Nat):(r.drop k).Fits :=
 ⟨Nat.mod_lt _ (Nat.lt_of_le_of_lt (Nat.zero_le _) f.first),Nat.le_trans (Nat.sub_le _ _) f.n,f.small⟩
theorem St.aH6 (r:St) (k:Nat) (h:k <= r.n):(r.drop k).all=r.all.drop k:=aFl _ _ _ _ h
section
variable {r:St} {rb bb:Nat} {w:World}
theorem aBm (r : St) (bb k : Nat) (x y : Int) (hx : x = ((r.drop k).first : Int)) (hy : y = ((r.drop k).n : Int)) :
  ((cells r bb).set 1 (.int .i64 x)).set 2 (.int .i64 y)=cells (r.drop k) bb:=by
 subst hx hy;simp [cells,St.drop]
theorem aIg {a : Own.Heap} {u v : World} (t : Own.aA a (heap r rb bb) u v) (k : Nat) (x y : Int) (hx : x = ((r.drop k).first : Int)) (hy : y = ((r.drop k).n : Int)) :
  Own.aA a (heap (r.drop k) rb bb) u ((v.setCell ⟨rb,1,none⟩ (.int .i64 x)).setCell ⟨rb,2,none⟩ (.int .i64 y)):=by
 have t2:=Own.aA.set (Own.aA.set t 1 (.int .i64 x) (by simp [cells])) 2 (.int .i64 y) (by simp [cells]);rw [aBm r bb k x y hx hy] at t2;exact t2
theorem eO (n : Nat) (h1 : 1 ≤ n) (h2 : n ≤ 1000) (w : World) : Calls prog 49 #[.int .i64 (n : Int)] w fun e w' => ∃ rb bb, e = .returned (.pointer (some ⟨rb, 0, none⟩)) ∧
  Own.aA [] (heap ⟨List.replicate n 0,0,0⟩ rb bb) w w':=by
 have hmk:=run_make_row' (P:=prog) 55 5 (.int .u8 0) 1 underlying55 (by kernel_rfl) rfl .i64 .i64 n (by omega) (by omega);have hle:¬ (n:Int) < 0:=by omega
 have hle2:(n:Int) <= 10000:=by omega
 go_enter func49,ntmps49;go_wp2
 all_goals first | (exfalso;omega) | skip
 all_goals go_ret
 all_goals
  refine ⟨w.heap.size + 1,rfl,w.heap.size,?_⟩;have:=(((Own.aA.refl (Own.Has.nil w)).bC _ rfl (.cells (madeCells #[.int .u8 0] n) 5)).bC (w.heap.size + 1) (by simp) (.cells #[.slice (some ⟨w.heap.size,0,none⟩) n n,.int .i64 0,.int .i64 0] 100));rw [Own.dQ] at this;simp only [heap,cells,bytes,List.map_replicate,List.length_replicate];rw [Own.dQ];exact this
theorem wZ (h : Own.Has w (heap r rb bb)) (f : r.Fits) (m : Nat) (hm : m ≤ 1000000) :
  Calls prog 68 #[.pointer (some ⟨rb,0,none⟩),.int .i64 (m:Int)] w fun e w'=>∃ r':St,e = .returned (.string ⟨(r.all.take m).toArray⟩) /\
   r'.Fits /\ r'.l.length=r.l.length /\ r'.all=r.all.drop m /\ Own.aA (heap r rb bb) (heap r' rb bb) w w':=by
 have HP:=hhh (aIz h f m hm);have Hm:=hhh hm;clear hm;obtain ⟨S,hS⟩:∃ S:ByteArray,S=⟨(r.all.take m).toArray⟩:=⟨_,rfl⟩;have HSz:=hhh (show S.size=min m r.n by rw [hS];show (List.take m r.all).toArray.size=_;rw [List.size_toArray,List.length_take,St.eE]);have hSle:S.size <= 10000:=by have:=HSz.o;have:=f.n;have:=f.small;omega
 rw [<- hS] at HP |-;have HS:=hhh hS;clear hS;go_enter func68,ntmps68;go_wp2_with (fail);refine HP.o.mono ?_;rintro e W1 ⟨rfl,ht⟩;have b1:=f.first
 have b2:=f.n;have b3:=f.small;by_cases h0:S.size=0
 ·have h0':(S.size:Int)=0:=by omega
  have HR:=hhh (show r.all.drop m=r.all by
   have:=HSz.o;rcases Nat.eq_zero_or_pos m with e | e
   ·rw [e];rfl
   ·have hr0:r.all=[]:=List.eq_nil_of_length_eq_zero (by rw [St.eE];omega)
    rw [hr0,List.drop_nil])
  clear h0;go_wp2
  all_goals go_ret
  all_goals exact ⟨r,rfl,f,rfl,HR.o.symm,ht⟩
 ·have c0:=cell0 ht.has
  have c1:=cU ht.has;have c2:=oD ht.has;have f1:=aH4 ht.has 1;have f2:=aH4 ht.has 2;obtain ⟨k,hk⟩:∃ k,k=S.size:=⟨_,rfl⟩;obtain ⟨x,hx⟩:∃ x:Nat,x=(r.first + k) % r.l.length:=⟨_,rfl⟩;have hmod:=uZ r.first k r.l.length
  have hmod':=pC r.first k r.l.length
  rw [<- hx] at hmod hmod';have hkp:(0:Int) < (k:Int):=by omega
  have hkn:k <= r.n:=by have:=HSz.o;omega
  have hkm:k <= m:=by have:=HSz.o;omega
  have hwrap:IntKind.i64.wrap ((r.first:Int) + (k:Int))=(r.first:Int) + (k:Int):=by rw [IntKind.wrap_i64];omega
  have hne:¬ r.l=[]:=by intro e;rw [e] at b1;simp at b1
  have Hx:=hhh hx;have Hk:=hhh (ai hkn hkm)
  have HR:=hhh (show r.all.drop k=r.all.drop m by
   rcases Nat.lt_or_ge m r.n with e | e
   ·have h1:k=m:=by have:=HSz.o;omega
    rw [h1]
   ·rw [List.drop_of_length_le (by rw [St.eE];have:=HSz.o;omega),List.drop_of_length_le (by rw [St.eE];omega)])
  have HSz2:=hhh (ai h0 hSle);clear h0 hSle hx hkm;have hx2:x < r.l.length:=by rw [Hx.o];exact Nat.mod_lt _ (by omega)
  have hk':=hk.symm;clear hk;go_wp2;go_still_tail 16,(by kernel_rfl);change wpList _ _ _ _ _ W1.drew;go_wp2;go_ret;refine ⟨r.drop k,rfl,f.drop k,rfl,(St.aH6 _ _ hkn).trans HR.o,?_⟩;exact ht.trans (aIg (Own.aA.refl ht.has) k _ _ (congrArg Nat.cast Hx.o) (by show (r.n:Int) - (k:Int)=((r.n - k:Nat):Int);omega)).drew
theorem uA (h : Own.Has w (heap r rb bb)) (f : r.Fits) :
  Calls prog 77 #[.pointer (some ⟨rb,0,none⟩)] w fun e w'=>∃ r':St,(∃ v,e = .returned v) /\
   r'.Fits /\ r'.l.length=r.l.length /\ r'.all=[] /\ Own.aA (heap r rb bb) (heap r' rb bb) w w':=by
 have hh:=h;have HL:=hhh (eQ hh);have HT:=hhh (fun W (hW:Own.Has W (heap r rb bb))=>wZ hW f r.n (by have:=f.n;have:=f.small;omega));have HA:=hhh (show r.all.drop r.n=[] from List.drop_of_length_le (by rw [St.eE];exact Nat.le_refl _));go_enter func77,ntmps77;go_wp2_with (fail);refine HL.o.mono ?_;rintro e W1 ⟨rfl,rfl⟩;go_wp2_with (fail);refine (HT.o _ hh).mono ?_;rintro e W1 ⟨r',rfl,f',hl,ha,ht⟩;go_wp2;go_ret;exact ⟨r',⟨_,rfl⟩,f',hl,ha.trans HA.o,ht⟩
end
end Ring
end
end Go.Proofs.YtcjflgmcjfcodaaGreat
