/- Texts of the walk, joined. -/
import Derived.Test.YtcjflgmcjfcodaaGreatM27
import Derived.Laws.BitsAllLaws
set_option maxRecDepth 100000
set_option maxHeartbeats 8000000
namespace Go.Proofs.Tryz end Go.Proofs.Tryz
namespace Go.Proofs.YtcjflgmcjfcodaaGreat
open Go.Proofs.Tryz
section
open Go.RowKit
namespace Pip
namespace Pk
theorem aF5 (m:Nat) (h:m < 18446744073709551616):18446744073709551615 ^^^ m=18446744073709551615 - m:=by
 have h1:=BitVec.toNat_not (x:=BitVec.ofNat 64 m);rw [<- BitVec.allOnes_xor,BitVec.toNat_xor,BitVec.toNat_allOnes,BitVec.toNat_ofNat,Nat.mod_eq_of_lt h] at h1;exact h1
theorem eY (v:Nat) (k:Int) (h:(v:Int)=k) (w:World):Calls prog 20 #[.int .u64 k,.int .i64 1] w fun e w'=>e = .returned (.string ⟨(big v 1).toArray⟩) /\ Below w.heap.size w w':=by
 have:=eM v w;rw [h] at this;exact this
theorem sJ (v : Nat) (h1 : v < 65536) (b : Nat) (w : World) (hw : Own.Has w [Own.row b 3 [.int .i64 2, .int .i64 4]]) :
  Calls prog 250 #[.int .u64 220,.slice (some ⟨b,0,none⟩) 2 2,.int .u64 (v:Int)] w fun e w'=>e = .returned (.string ⟨(big 220 1 ++ big v 2).toArray⟩) /\ Below w.heap.size w w':=by
 have HB1:=hhh (fun u=>eY 220 220 rfl u);have HB2:=hhh (fun u=>gF v u);have c0:=hw.cell b _ _ mcs 0 _ rfl;obtain ⟨V,hV⟩:∃ V:Int,V=(v:Int):=⟨_,rfl⟩;rw [<- hV] at HB2 |-;have g0:V < 65536:=by omega
 have BT:=hhh (fun (u x:World) (b1:Below w.heap.size w u) (b2:Below u.heap.size u x)=>(b1.trans (b2.mono b1.size):Below w.heap.size w x));have hcat:=bF (big 220 1) (big v 2);obtain ⟨X1,hX1⟩:∃ S:ByteArray,S=⟨(big 220 1).toArray⟩:=⟨_,rfl⟩;obtain ⟨X2,hX2⟩:∃ S:ByteArray,S=⟨(big v 2).toArray⟩:=⟨_,rfl⟩;have z1:X1.size=1:=by rw [hX1,aL,aS]
 have z2:X2.size=2:=by rw [hX2,aL,aS]
 rw [<- hX1] at HB1;rw [<- hX2] at HB2;rw [<- hX1,<- hX2] at hcat;have Hcat:=hhh hcat;clear hcat hX1 hX2 hw hV h1;go_enter func250,ntmps250;go_wp2_with (fail);refine wp_loop_rounds 2 ?_;rw [rounds_succ];go_wp2_with (fail);refine (HB1.o _).mono ?_;rintro e w1 ⟨rfl,b1⟩;go_wp2_with (fail);refine (HB2.o _).mono ?_;rintro e w2 ⟨rfl,b2⟩;have C:=hhh (BT.o _ _ b1 b2);clear b1 b2;go_wp2;go_ret;exact ⟨Own.aZ Hcat.o,C.o⟩
theorem sB (v : Nat) (h0 : 65536 ≤ v) (h1 : v < 4294967296) (b : Nat) (w : World) (hw : Own.Has w [Own.row b 3 [.int .i64 2, .int .i64 4]]) :
  Calls prog 250 #[.int .u64 220,.slice (some ⟨b,0,none⟩) 2 2,.int .u64 (v:Int)] w fun e w'=>e = .returned (.string ⟨(big 221 1 ++ big v 4).toArray⟩) /\ Below w.heap.size w w':=by
 have HB1:=hhh (fun u=>eY 221 221 rfl u);have HB2:=hhh (fun u=>gZ v u);have c0:=hw.cell b _ _ mcs 0 _ rfl;have c1:=hw.cell b _ _ mcs 1 _ rfl;obtain ⟨V,hV⟩:∃ V:Int,V=(v:Int):=⟨_,rfl⟩;rw [<- hV] at HB2 |-;have g0:¬ V < 65536:=by omega
 have g1:V < 4294967296:=by omega
 have BT:=hhh (fun (u x:World) (b1:Below w.heap.size w u) (b2:Below u.heap.size u x)=>(b1.trans (b2.mono b1.size):Below w.heap.size w x));have hcat:=bF (big 221 1) (big v 4);obtain ⟨X1,hX1⟩:∃ S:ByteArray,S=⟨(big 221 1).toArray⟩:=⟨_,rfl⟩;obtain ⟨X2,hX2⟩:∃ S:ByteArray,S=⟨(big v 4).toArray⟩:=⟨_,rfl⟩;have z1:X1.size=1:=by rw [hX1,aL,aS]
 have z2:X2.size=4:=by rw [hX2,aL,aS]
 rw [<- hX1] at HB1;rw [<- hX2] at HB2;rw [<- hX1,<- hX2] at hcat;have Hcat:=hhh hcat;clear hcat hX1 hX2 hw hV h0 h1;go_enter func250,ntmps250;go_wp2_with (fail);refine wp_loop_rounds 3 ?_;rw [rounds_succ];go_wp2_with (fail);rw [rounds_succ];go_wp2_with (fail);refine (HB1.o _).mono ?_;rintro e w1 ⟨rfl,b1⟩;go_wp2_with (fail);refine (HB2.o _).mono ?_;rintro e w2 ⟨rfl,b2⟩;have C:=hhh (BT.o _ _ b1 b2);clear b1 b2;go_wp2;go_ret;exact ⟨Own.aZ Hcat.o,C.o⟩
theorem sT (v : Nat) (h1 : v < 65536) (b : Nat) (w : World) (hw : Own.Has w [Own.row b 3 [.int .i64 2, .int .i64 4]]) :
  Calls prog 250 #[.int .u64 222,.slice (some ⟨b,0,none⟩) 2 2,.int .u64 (v:Int)] w fun e w'=>e = .returned (.string ⟨(big 222 1 ++ big v 2).toArray⟩) /\ Below w.heap.size w w':=by
 have HB1:=hhh (fun u=>eY 222 222 rfl u);have HB2:=hhh (fun u=>gF v u);have c0:=hw.cell b _ _ mcs 0 _ rfl;obtain ⟨V,hV⟩:∃ V:Int,V=(v:Int):=⟨_,rfl⟩;rw [<- hV] at HB2 |-;have g0:V < 65536:=by omega
 have BT:=hhh (fun (u x:World) (b1:Below w.heap.size w u) (b2:Below u.heap.size u x)=>(b1.trans (b2.mono b1.size):Below w.heap.size w x));have hcat:=bF (big 222 1) (big v 2);obtain ⟨X1,hX1⟩:∃ S:ByteArray,S=⟨(big 222 1).toArray⟩:=⟨_,rfl⟩;obtain ⟨X2,hX2⟩:∃ S:ByteArray,S=⟨(big v 2).toArray⟩:=⟨_,rfl⟩;have z1:X1.size=1:=by rw [hX1,aL,aS]
 have z2:X2.size=2:=by rw [hX2,aL,aS]
 rw [<- hX1] at HB1;rw [<- hX2] at HB2;rw [<- hX1,<- hX2] at hcat;have Hcat:=hhh hcat;clear hcat hX1 hX2 hw hV h1;go_enter func250,ntmps250;go_wp2_with (fail);refine wp_loop_rounds 2 ?_;rw [rounds_succ];go_wp2_with (fail);refine (HB1.o _).mono ?_;rintro e w1 ⟨rfl,b1⟩;go_wp2_with (fail);refine (HB2.o _).mono ?_;rintro e w2 ⟨rfl,b2⟩;have C:=hhh (BT.o _ _ b1 b2);clear b1 b2;go_wp2;go_ret;exact ⟨Own.aZ Hcat.o,C.o⟩
theorem sE (v : Nat) (h0 : 65536 ≤ v) (h1 : v < 4294967296) (b : Nat) (w : World) (hw : Own.Has w [Own.row b 3 [.int .i64 2, .int .i64 4]]) :
  Calls prog 250 #[.int .u64 222,.slice (some ⟨b,0,none⟩) 2 2,.int .u64 (v:Int)] w fun e w'=>e = .returned (.string ⟨(big 223 1 ++ big v 4).toArray⟩) /\ Below w.heap.size w w':=by
 have HB1:=hhh (fun u=>eY 223 223 rfl u);have HB2:=hhh (fun u=>gZ v u);have c0:=hw.cell b _ _ mcs 0 _ rfl;have c1:=hw.cell b _ _ mcs 1 _ rfl;obtain ⟨V,hV⟩:∃ V:Int,V=(v:Int):=⟨_,rfl⟩;rw [<- hV] at HB2 |-;have g0:¬ V < 65536:=by omega
 have g1:V < 4294967296:=by omega
 have BT:=hhh (fun (u x:World) (b1:Below w.heap.size w u) (b2:Below u.heap.size u x)=>(b1.trans (b2.mono b1.size):Below w.heap.size w x));have hcat:=bF (big 223 1) (big v 4);obtain ⟨X1,hX1⟩:∃ S:ByteArray,S=⟨(big 223 1).toArray⟩:=⟨_,rfl⟩;obtain ⟨X2,hX2⟩:∃ S:ByteArray,S=⟨(big v 4).toArray⟩:=⟨_,rfl⟩;have z1:X1.size=1:=by rw [hX1,aL,aS]
 have z2:X2.size=4:=by rw [hX2,aL,aS]
 rw [<- hX1] at HB1;rw [<- hX2] at HB2;rw [<- hX1,<- hX2] at hcat;have Hcat:=hhh hcat;clear hcat hX1 hX2 hw hV h0 h1;go_enter func250,ntmps250;go_wp2_with (fail);refine wp_loop_rounds 3 ?_;rw [rounds_succ];go_wp2_with (fail);rw [rounds_succ];go_wp2_with (fail);refine (HB1.o _).mono ?_;rintro e w1 ⟨rfl,b1⟩;go_wp2_with (fail);refine (HB2.o _).mono ?_;rintro e w2 ⟨rfl,b2⟩;have C:=hhh (BT.o _ _ b1 b2);clear b1 b2;go_wp2;go_ret;exact ⟨Own.aZ Hcat.o,C.o⟩
theorem pB (v : Nat) (h1 : v < 256) (b : Nat) (w : World) (hw : Own.Has w [Own.row b 3 [.int .i64 1, .int .i64 2, .int .i64 4]]) :
  Calls prog 250 #[.int .u64 217,.slice (some ⟨b,0,none⟩) 3 3,.int .u64 (v:Int)] w fun e w'=>e = .returned (.string ⟨(big 217 1 ++ big v 1).toArray⟩) /\ Below w.heap.size w w':=by
 have HB1:=hhh (fun u=>eY 217 217 rfl u);have HB2:=hhh (fun u=>eM v u);have c0:=hw.cell b _ _ mcs 0 _ rfl;obtain ⟨V,hV⟩:∃ V:Int,V=(v:Int):=⟨_,rfl⟩;rw [<- hV] at HB2 |-;have g0:V < 256:=by omega
 have BT:=hhh (fun (u x:World) (b1:Below w.heap.size w u) (b2:Below u.heap.size u x)=>(b1.trans (b2.mono b1.size):Below w.heap.size w x));have hcat:=bF (big 217 1) (big v 1);obtain ⟨X1,hX1⟩:∃ S:ByteArray,S=⟨(big 217 1).toArray⟩:=⟨_,rfl⟩;obtain ⟨X2,hX2⟩:∃ S:ByteArray,S=⟨(big v 1).toArray⟩:=⟨_,rfl⟩;have z1:X1.size=1:=by rw [hX1,aL,aS]
 have z2:X2.size=1:=by rw [hX2,aL,aS]
 rw [<- hX1] at HB1;rw [<- hX2] at HB2;rw [<- hX1,<- hX2] at hcat;have Hcat:=hhh hcat;clear hcat hX1 hX2 hw hV h1;go_enter func250,ntmps250;go_wp2_with (fail);refine wp_loop_rounds 2 ?_;rw [rounds_succ];go_wp2_with (fail);refine (HB1.o _).mono ?_;rintro e w1 ⟨rfl,b1⟩;go_wp2_with (fail);refine (HB2.o _).mono ?_;rintro e w2 ⟨rfl,b2⟩;have C:=hhh (BT.o _ _ b1 b2);clear b1 b2;go_wp2;go_ret;exact ⟨Own.aZ Hcat.o,C.o⟩
theorem pT (v : Nat) (h0 : 256 ≤ v) (h1 : v < 65536) (b : Nat) (w : World) (hw : Own.Has w [Own.row b 3 [.int .i64 1, .int .i64 2, .int .i64 4]]) :
  Calls prog 250 #[.int .u64 217,.slice (some ⟨b,0,none⟩) 3 3,.int .u64 (v:Int)] w fun e w'=>e = .returned (.string ⟨(big 218 1 ++ big v 2).toArray⟩) /\ Below w.heap.size w w':=by
 have HB1:=hhh (fun u=>eY 218 218 rfl u);have HB2:=hhh (fun u=>gF v u);have c0:=hw.cell b _ _ mcs 0 _ rfl;have c1:=hw.cell b _ _ mcs 1 _ rfl;obtain ⟨V,hV⟩:∃ V:Int,V=(v:Int):=⟨_,rfl⟩;rw [<- hV] at HB2 |-;have g0:¬ V < 256:=by omega
 have g1:V < 65536:=by omega
 have BT:=hhh (fun (u x:World) (b1:Below w.heap.size w u) (b2:Below u.heap.size u x)=>(b1.trans (b2.mono b1.size):Below w.heap.size w x));have hcat:=bF (big 218 1) (big v 2);obtain ⟨X1,hX1⟩:∃ S:ByteArray,S=⟨(big 218 1).toArray⟩:=⟨_,rfl⟩;obtain ⟨X2,hX2⟩:∃ S:ByteArray,S=⟨(big v 2).toArray⟩:=⟨_,rfl⟩;have z1:X1.size=1:=by rw [hX1,aL,aS]
 have z2:X2.size=2:=by rw [hX2,aL,aS]
 rw [<- hX1] at HB1;rw [<- hX2] at HB2;rw [<- hX1,<- hX2] at hcat;have Hcat:=hhh hcat;clear hcat hX1 hX2 hw hV h0 h1;go_enter func250,ntmps250;go_wp2_with (fail);refine wp_loop_rounds 3 ?_;rw [rounds_succ];go_wp2_with (fail);rw [rounds_succ];go_wp2_with (fail);refine (HB1.o _).mono ?_;rintro e w1 ⟨rfl,b1⟩;go_wp2_with (fail);refine (HB2.o _).mono ?_;rintro e w2 ⟨rfl,b2⟩;have C:=hhh (BT.o _ _ b1 b2);clear b1 b2;go_wp2;go_ret;exact ⟨Own.aZ Hcat.o,C.o⟩
theorem qP (v : Nat) (h0 : 65536 ≤ v) (h1 : v < 4294967296) (b : Nat) (w : World) (hw : Own.Has w [Own.row b 3 [.int .i64 1, .int .i64 2, .int .i64 4]]) :
  Calls prog 250 #[.int .u64 217,.slice (some ⟨b,0,none⟩) 3 3,.int .u64 (v:Int)] w fun e w'=>e = .returned (.string ⟨(big 219 1 ++ big v 4).toArray⟩) /\ Below w.heap.size w w':=by
 have HB1:=hhh (fun u=>eY 219 219 rfl u);have HB2:=hhh (fun u=>gZ v u);have c0:=hw.cell b _ _ mcs 0 _ rfl;have c1:=hw.cell b _ _ mcs 1 _ rfl;have c2:=hw.cell b _ _ mcs 2 _ rfl;obtain ⟨V,hV⟩:∃ V:Int,V=(v:Int):=⟨_,rfl⟩;rw [<- hV] at HB2 |-;have g0:¬ V < 256:=by omega
 have g1:¬ V < 65536:=by omega
 have g2:V < 4294967296:=by omega
 have BT:=hhh (fun (u x:World) (b1:Below w.heap.size w u) (b2:Below u.heap.size u x)=>(b1.trans (b2.mono b1.size):Below w.heap.size w x));have hcat:=bF (big 219 1) (big v 4);obtain ⟨X1,hX1⟩:∃ S:ByteArray,S=⟨(big 219 1).toArray⟩:=⟨_,rfl⟩;obtain ⟨X2,hX2⟩:∃ S:ByteArray,S=⟨(big v 4).toArray⟩:=⟨_,rfl⟩;have z1:X1.size=1:=by rw [hX1,aL,aS]
 have z2:X2.size=4:=by rw [hX2,aL,aS]
 rw [<- hX1] at HB1;rw [<- hX2] at HB2;rw [<- hX1,<- hX2] at hcat;have Hcat:=hhh hcat;clear hcat hX1 hX2 hw hV h0 h1;go_enter func250,ntmps250;go_wp2_with (fail);refine wp_loop_rounds 4 ?_;rw [rounds_succ];go_wp2_with (fail);rw [rounds_succ];go_wp2_with (fail);rw [rounds_succ];go_wp2_with (fail);refine (HB1.o _).mono ?_;rintro e w1 ⟨rfl,b1⟩;go_wp2_with (fail);refine (HB2.o _).mono ?_;rintro e w2 ⟨rfl,b2⟩;have C:=hhh (BT.o _ _ b1 b2);clear b1 b2;go_wp2;go_ret;exact ⟨Own.aZ Hcat.o,C.o⟩
theorem rV (v : Nat) (h1 : v < 256) (b : Nat) (w : World) (hw : Own.Has w [Own.row b 3 [.int .i64 1, .int .i64 2, .int .i64 4]]) :
  Calls prog 250 #[.int .u64 196,.slice (some ⟨b,0,none⟩) 3 3,.int .u64 (v:Int)] w fun e w'=>e = .returned (.string ⟨(big 196 1 ++ big v 1).toArray⟩) /\ Below w.heap.size w w':=by
 have HB1:=hhh (fun u=>eY 196 196 rfl u);have HB2:=hhh (fun u=>eM v u);have c0:=hw.cell b _ _ mcs 0 _ rfl;obtain ⟨V,hV⟩:∃ V:Int,V=(v:Int):=⟨_,rfl⟩;rw [<- hV] at HB2 |-;have g0:V < 256:=by omega
 have BT:=hhh (fun (u x:World) (b1:Below w.heap.size w u) (b2:Below u.heap.size u x)=>(b1.trans (b2.mono b1.size):Below w.heap.size w x));have hcat:=bF (big 196 1) (big v 1);obtain ⟨X1,hX1⟩:∃ S:ByteArray,S=⟨(big 196 1).toArray⟩:=⟨_,rfl⟩;obtain ⟨X2,hX2⟩:∃ S:ByteArray,S=⟨(big v 1).toArray⟩:=⟨_,rfl⟩;have z1:X1.size=1:=by rw [hX1,aL,aS]
 have z2:X2.size=1:=by rw [hX2,aL,aS]
 rw [<- hX1] at HB1;rw [<- hX2] at HB2;rw [<- hX1,<- hX2] at hcat;have Hcat:=hhh hcat;clear hcat hX1 hX2 hw hV h1;go_enter func250,ntmps250;go_wp2_with (fail);refine wp_loop_rounds 2 ?_;rw [rounds_succ];go_wp2_with (fail);refine (HB1.o _).mono ?_;rintro e w1 ⟨rfl,b1⟩;go_wp2_with (fail);refine (HB2.o _).mono ?_;rintro e w2 ⟨rfl,b2⟩;have C:=hhh (BT.o _ _ b1 b2);clear b1 b2;go_wp2;go_ret;exact ⟨Own.aZ Hcat.o,C.o⟩
theorem pQ (v : Nat) (h0 : 256 ≤ v) (h1 : v < 65536) (b : Nat) (w : World) (hw : Own.Has w [Own.row b 3 [.int .i64 1, .int .i64 2, .int .i64 4]]) :
  Calls prog 250 #[.int .u64 196,.slice (some ⟨b,0,none⟩) 3 3,.int .u64 (v:Int)] w fun e w'=>e = .returned (.string ⟨(big 197 1 ++ big v 2).toArray⟩) /\ Below w.heap.size w w':=by
 have HB1:=hhh (fun u=>eY 197 197 rfl u);have HB2:=hhh (fun u=>gF v u);have c0:=hw.cell b _ _ mcs 0 _ rfl;have c1:=hw.cell b _ _ mcs 1 _ rfl;obtain ⟨V,hV⟩:∃ V:Int,V=(v:Int):=⟨_,rfl⟩;rw [<- hV] at HB2 |-;have g0:¬ V < 256:=by omega
 have g1:V < 65536:=by omega
 have BT:=hhh (fun (u x:World) (b1:Below w.heap.size w u) (b2:Below u.heap.size u x)=>(b1.trans (b2.mono b1.size):Below w.heap.size w x));have hcat:=bF (big 197 1) (big v 2);obtain ⟨X1,hX1⟩:∃ S:ByteArray,S=⟨(big 197 1).toArray⟩:=⟨_,rfl⟩;obtain ⟨X2,hX2⟩:∃ S:ByteArray,S=⟨(big v 2).toArray⟩:=⟨_,rfl⟩;have z1:X1.size=1:=by rw [hX1,aL,aS]
 have z2:X2.size=2:=by rw [hX2,aL,aS]
 rw [<- hX1] at HB1;rw [<- hX2] at HB2;rw [<- hX1,<- hX2] at hcat;have Hcat:=hhh hcat;clear hcat hX1 hX2 hw hV h0 h1;go_enter func250,ntmps250;go_wp2_with (fail);refine wp_loop_rounds 3 ?_;rw [rounds_succ];go_wp2_with (fail);rw [rounds_succ];go_wp2_with (fail);refine (HB1.o _).mono ?_;rintro e w1 ⟨rfl,b1⟩;go_wp2_with (fail);refine (HB2.o _).mono ?_;rintro e w2 ⟨rfl,b2⟩;have C:=hhh (BT.o _ _ b1 b2);clear b1 b2;go_wp2;go_ret;exact ⟨Own.aZ Hcat.o,C.o⟩
theorem qQ (v : Nat) (h0 : 65536 ≤ v) (h1 : v < 4294967296) (b : Nat) (w : World) (hw : Own.Has w [Own.row b 3 [.int .i64 1, .int .i64 2, .int .i64 4]]) :
  Calls prog 250 #[.int .u64 196,.slice (some ⟨b,0,none⟩) 3 3,.int .u64 (v:Int)] w fun e w'=>e = .returned (.string ⟨(big 198 1 ++ big v 4).toArray⟩) /\ Below w.heap.size w w':=by
 have HB1:=hhh (fun u=>eY 198 198 rfl u);have HB2:=hhh (fun u=>gZ v u);have c0:=hw.cell b _ _ mcs 0 _ rfl;have c1:=hw.cell b _ _ mcs 1 _ rfl;have c2:=hw.cell b _ _ mcs 2 _ rfl;obtain ⟨V,hV⟩:∃ V:Int,V=(v:Int):=⟨_,rfl⟩;rw [<- hV] at HB2 |-;have g0:¬ V < 256:=by omega
 have g1:¬ V < 65536:=by omega
 have g2:V < 4294967296:=by omega
 have BT:=hhh (fun (u x:World) (b1:Below w.heap.size w u) (b2:Below u.heap.size u x)=>(b1.trans (b2.mono b1.size):Below w.heap.size w x));have hcat:=bF (big 198 1) (big v 4);obtain ⟨X1,hX1⟩:∃ S:ByteArray,S=⟨(big 198 1).toArray⟩:=⟨_,rfl⟩;obtain ⟨X2,hX2⟩:∃ S:ByteArray,S=⟨(big v 4).toArray⟩:=⟨_,rfl⟩;have z1:X1.size=1:=by rw [hX1,aL,aS]
 have z2:X2.size=4:=by rw [hX2,aL,aS]
 rw [<- hX1] at HB1;rw [<- hX2] at HB2;rw [<- hX1,<- hX2] at hcat;have Hcat:=hhh hcat;clear hcat hX1 hX2 hw hV h0 h1;go_enter func250,ntmps250;go_wp2_with (fail);refine wp_loop_rounds 4 ?_;rw [rounds_succ];go_wp2_with (fail);rw [rounds_succ];go_wp2_with (fail);rw [rounds_succ];go_wp2_with (fail);refine (HB1.o _).mono ?_;rintro e w1 ⟨rfl,b1⟩;go_wp2_with (fail);refine (HB2.o _).mono ?_;rintro e w2 ⟨rfl,b2⟩;have C:=hhh (BT.o _ _ b1 b2);clear b1 b2;go_wp2;go_ret;exact ⟨Own.aZ Hcat.o,C.o⟩
theorem oR (v : Nat) (h1 : v < 256) (b : Nat) (w : World) (hw : Own.Has w [Own.row b 3 [.int .i64 1, .int .i64 2, .int .i64 4, .int .i64 8]]) :
  Calls prog 250 #[.int .u64 204,.slice (some ⟨b,0,none⟩) 4 4,.int .u64 (v:Int)] w fun e w'=>e = .returned (.string ⟨(big 204 1 ++ big v 1).toArray⟩) /\ Below w.heap.size w w':=by
 have HB1:=hhh (fun u=>eY 204 204 rfl u);have HB2:=hhh (fun u=>eM v u);have c0:=hw.cell b _ _ mcs 0 _ rfl;obtain ⟨V,hV⟩:∃ V:Int,V=(v:Int):=⟨_,rfl⟩;rw [<- hV] at HB2 |-;have g0:V < 256:=by omega
 have BT:=hhh (fun (u x:World) (b1:Below w.heap.size w u) (b2:Below u.heap.size u x)=>(b1.trans (b2.mono b1.size):Below w.heap.size w x));have hcat:=bF (big 204 1) (big v 1);obtain ⟨X1,hX1⟩:∃ S:ByteArray,S=⟨(big 204 1).toArray⟩:=⟨_,rfl⟩;obtain ⟨X2,hX2⟩:∃ S:ByteArray,S=⟨(big v 1).toArray⟩:=⟨_,rfl⟩;have z1:X1.size=1:=by rw [hX1,aL,aS]
 have z2:X2.size=1:=by rw [hX2,aL,aS]
 rw [<- hX1] at HB1;rw [<- hX2] at HB2;rw [<- hX1,<- hX2] at hcat;have Hcat:=hhh hcat;clear hcat hX1 hX2 hw hV h1;go_enter func250,ntmps250;go_wp2_with (fail);refine wp_loop_rounds 2 ?_;rw [rounds_succ];go_wp2_with (fail);refine (HB1.o _).mono ?_;rintro e w1 ⟨rfl,b1⟩;go_wp2_with (fail);refine (HB2.o _).mono ?_;rintro e w2 ⟨rfl,b2⟩;have C:=hhh (BT.o _ _ b1 b2);clear b1 b2;go_wp2;go_ret;exact ⟨Own.aZ Hcat.o,C.o⟩
theorem oS (v : Nat) (h0 : 256 ≤ v) (h1 : v < 65536) (b : Nat) (w : World) (hw : Own.Has w [Own.row b 3 [.int .i64 1, .int .i64 2, .int .i64 4, .int .i64 8]]) :
  Calls prog 250 #[.int .u64 204,.slice (some ⟨b,0,none⟩) 4 4,.int .u64 (v:Int)] w fun e w'=>e = .returned (.string ⟨(big 205 1 ++ big v 2).toArray⟩) /\ Below w.heap.size w w':=by
 have HB1:=hhh (fun u=>eY 205 205 rfl u);have HB2:=hhh (fun u=>gF v u);have c0:=hw.cell b _ _ mcs 0 _ rfl;have c1:=hw.cell b _ _ mcs 1 _ rfl;obtain ⟨V,hV⟩:∃ V:Int,V=(v:Int):=⟨_,rfl⟩;rw [<- hV] at HB2 |-;have g0:¬ V < 256:=by omega
 have g1:V < 65536:=by omega
 have BT:=hhh (fun (u x:World) (b1:Below w.heap.size w u) (b2:Below u.heap.size u x)=>(b1.trans (b2.mono b1.size):Below w.heap.size w x));have hcat:=bF (big 205 1) (big v 2);obtain ⟨X1,hX1⟩:∃ S:ByteArray,S=⟨(big 205 1).toArray⟩:=⟨_,rfl⟩;obtain ⟨X2,hX2⟩:∃ S:ByteArray,S=⟨(big v 2).toArray⟩:=⟨_,rfl⟩;have z1:X1.size=1:=by rw [hX1,aL,aS]
 have z2:X2.size=2:=by rw [hX2,aL,aS]
 rw [<- hX1] at HB1;rw [<- hX2] at HB2;rw [<- hX1,<- hX2] at hcat;have Hcat:=hhh hcat;clear hcat hX1 hX2 hw hV h0 h1;go_enter func250,ntmps250;go_wp2_with (fail);refine wp_loop_rounds 3 ?_;rw [rounds_succ];go_wp2_with (fail);rw [rounds_succ];go_wp2_with (fail);refine (HB1.o _).mono ?_;rintro e w1 ⟨rfl,b1⟩;go_wp2_with (fail);refine (HB2.o _).mono ?_;rintro e w2 ⟨rfl,b2⟩;have C:=hhh (BT.o _ _ b1 b2);clear b1 b2;go_wp2;go_ret;exact ⟨Own.aZ Hcat.o,C.o⟩
theorem oJ (v : Nat) (h0 : 65536 ≤ v) (h1 : v < 4294967296) (b : Nat) (w : World) (hw : Own.Has w [Own.row b 3 [.int .i64 1, .int .i64 2, .int .i64 4, .int .i64 8]]) :
  Calls prog 250 #[.int .u64 204,.slice (some ⟨b,0,none⟩) 4 4,.int .u64 (v:Int)] w fun e w'=>e = .returned (.string ⟨(big 206 1 ++ big v 4).toArray⟩) /\ Below w.heap.size w w':=by
 have HB1:=hhh (fun u=>eY 206 206 rfl u);have HB2:=hhh (fun u=>gZ v u);have c0:=hw.cell b _ _ mcs 0 _ rfl;have c1:=hw.cell b _ _ mcs 1 _ rfl;have c2:=hw.cell b _ _ mcs 2 _ rfl;obtain ⟨V,hV⟩:∃ V:Int,V=(v:Int):=⟨_,rfl⟩;rw [<- hV] at HB2 |-;have g0:¬ V < 256:=by omega
 have g1:¬ V < 65536:=by omega
 have g2:V < 4294967296:=by omega
 have BT:=hhh (fun (u x:World) (b1:Below w.heap.size w u) (b2:Below u.heap.size u x)=>(b1.trans (b2.mono b1.size):Below w.heap.size w x));have hcat:=bF (big 206 1) (big v 4);obtain ⟨X1,hX1⟩:∃ S:ByteArray,S=⟨(big 206 1).toArray⟩:=⟨_,rfl⟩;obtain ⟨X2,hX2⟩:∃ S:ByteArray,S=⟨(big v 4).toArray⟩:=⟨_,rfl⟩;have z1:X1.size=1:=by rw [hX1,aL,aS]
 have z2:X2.size=4:=by rw [hX2,aL,aS]
 rw [<- hX1] at HB1;rw [<- hX2] at HB2;rw [<- hX1,<- hX2] at hcat;have Hcat:=hhh hcat;clear hcat hX1 hX2 hw hV h0 h1;go_enter func250,ntmps250;go_wp2_with (fail);refine wp_loop_rounds 4 ?_;rw [rounds_succ];go_wp2_with (fail);rw [rounds_succ];go_wp2_with (fail);rw [rounds_succ];go_wp2_with (fail);refine (HB1.o _).mono ?_;rintro e w1 ⟨rfl,b1⟩;go_wp2_with (fail);refine (HB2.o _).mono ?_;rintro e w2 ⟨rfl,b2⟩;have C:=hhh (BT.o _ _ b1 b2);clear b1 b2;go_wp2;go_ret;exact ⟨Own.aZ Hcat.o,C.o⟩
theorem oN (v : Nat) (h0 : 4294967296 ≤ v) (h1 : v < 18446744073709551616) (b : Nat) (w : World) (hw : Own.Has w [Own.row b 3 [.int .i64 1, .int .i64 2, .int .i64 4, .int .i64 8]]) :
  Calls prog 250 #[.int .u64 204,.slice (some ⟨b,0,none⟩) 4 4,.int .u64 (v:Int)] w fun e w'=>e = .returned (.string ⟨(big 207 1 ++ big v 8).toArray⟩) /\ Below w.heap.size w w':=by
 have HB1:=hhh (fun u=>eY 207 207 rfl u);have HB2:=hhh (fun u=>qO v h1 u);have c0:=hw.cell b _ _ mcs 0 _ rfl;have c1:=hw.cell b _ _ mcs 1 _ rfl;have c2:=hw.cell b _ _ mcs 2 _ rfl;have c3:=hw.cell b _ _ mcs 3 _ rfl;obtain ⟨V,hV⟩:∃ V:Int,V=(v:Int):=⟨_,rfl⟩;rw [<- hV] at HB2 |-;have g0:¬ V < 256:=by omega
 have g1:¬ V < 65536:=by omega
 have g2:¬ V < 4294967296:=by omega
 have BT:=hhh (fun (u x:World) (b1:Below w.heap.size w u) (b2:Below u.heap.size u x)=>(b1.trans (b2.mono b1.size):Below w.heap.size w x));have hcat:=bF (big 207 1) (big v 8);obtain ⟨X1,hX1⟩:∃ S:ByteArray,S=⟨(big 207 1).toArray⟩:=⟨_,rfl⟩;obtain ⟨X2,hX2⟩:∃ S:ByteArray,S=⟨(big v 8).toArray⟩:=⟨_,rfl⟩;have z1:X1.size=1:=by rw [hX1,aL,aS]
 have z2:X2.size=8:=by rw [hX2,aL,aS]
 rw [<- hX1] at HB1;rw [<- hX2] at HB2;rw [<- hX1,<- hX2] at hcat;have Hcat:=hhh hcat;clear hcat hX1 hX2 hw hV h0 h1;go_enter func250,ntmps250;go_wp2_with (fail);refine wp_loop_rounds 5 ?_;rw [rounds_succ];go_wp2_with (fail);rw [rounds_succ];go_wp2_with (fail);rw [rounds_succ];go_wp2_with (fail);rw [rounds_succ];go_wp2_with (fail);refine (HB1.o _).mono ?_;rintro e w1 ⟨rfl,b1⟩;go_wp2_with (fail);refine (HB2.o _).mono ?_;rintro e w2 ⟨rfl,b2⟩;have C:=hhh (BT.o _ _ b1 b2);clear b1 b2;go_wp2;go_ret;exact ⟨Own.aZ Hcat.o,C.o⟩
theorem yG (v : Nat) (h : v < 4294967296) (b : Nat) (w : World) (hw : Own.Has w [Own.row b 3 [.int .i64 2, .int .i64 4]]) :
  Calls prog 250 #[.int .u64 220,.slice (some ⟨b,0,none⟩) 2 2,.int .u64 (v:Int)] w fun e w'=>e = .returned (.string ⟨(sized 220 v [2,4] 0).toArray⟩) /\ Below w.heap.size w w':=by
 by_cases g0:v < 65536
 ·rw [show sized 220 v [2,4] 0=big 220 1 ++ big v 2 by simp only [sized];rw [ifp (by omega)]]
  exact sJ v (by omega) b w hw
 rw [show sized 220 v [2,4] 0=big 221 1 ++ big v 4 by simp only [sized];rw [ifn (by omega)];rw [ifp (by omega)]];exact sB v (by omega) (by omega) b w hw
theorem zB (v : Nat) (h : v < 4294967296) (b : Nat) (w : World) (hw : Own.Has w [Own.row b 3 [.int .i64 2, .int .i64 4]]) :
  Calls prog 250 #[.int .u64 222,.slice (some ⟨b,0,none⟩) 2 2,.int .u64 (v:Int)] w fun e w'=>e = .returned (.string ⟨(sized 222 v [2,4] 0).toArray⟩) /\ Below w.heap.size w w':=by
 by_cases g0:v < 65536
 ·rw [show sized 222 v [2,4] 0=big 222 1 ++ big v 2 by simp only [sized];rw [ifp (by omega)]]
  exact sT v (by omega) b w hw
 rw [show sized 222 v [2,4] 0=big 223 1 ++ big v 4 by simp only [sized];rw [ifn (by omega)];rw [ifp (by omega)]];exact sE v (by omega) (by omega) b w hw
theorem vH (v : Nat) (h : v < 4294967296) (b : Nat) (w : World) (hw : Own.Has w [Own.row b 3 [.int .i64 1, .int .i64 2, .int .i64 4]]) :
  Calls prog 250 #[.int .u64 217,.slice (some ⟨b,0,none⟩) 3 3,.int .u64 (v:Int)] w fun e w'=>e = .returned (.string ⟨(sized 217 v [1,2,4] 0).toArray⟩) /\ Below w.heap.size w w':=by
 by_cases g0:v < 256
 ·rw [show sized 217 v [1,2,4] 0=big 217 1 ++ big v 1 by simp only [sized];rw [ifp (by omega)]]
  exact pB v (by omega) b w hw
 by_cases g1:v < 65536
 ·rw [show sized 217 v [1,2,4] 0=big 218 1 ++ big v 2 by simp only [sized];rw [ifn (by omega)];rw [ifp (by omega)]]
  exact pT v (by omega) (by omega) b w hw
 rw [show sized 217 v [1,2,4] 0=big 219 1 ++ big v 4 by simp only [sized];rw [ifn (by omega)];rw [ifn (by omega)];rw [ifp (by omega)]];exact qP v (by omega) (by omega) b w hw
theorem vU (v : Nat) (h : v < 4294967296) (b : Nat) (w : World) (hw : Own.Has w [Own.row b 3 [.int .i64 1, .int .i64 2, .int .i64 4]]) :
  Calls prog 250 #[.int .u64 196,.slice (some ⟨b,0,none⟩) 3 3,.int .u64 (v:Int)] w fun e w'=>e = .returned (.string ⟨(sized 196 v [1,2,4] 0).toArray⟩) /\ Below w.heap.size w w':=by
 by_cases g0:v < 256
 ·rw [show sized 196 v [1,2,4] 0=big 196 1 ++ big v 1 by simp only [sized];rw [ifp (by omega)]]
  exact rV v (by omega) b w hw
 by_cases g1:v < 65536
 ·rw [show sized 196 v [1,2,4] 0=big 197 1 ++ big v 2 by simp only [sized];rw [ifn (by omega)];rw [ifp (by omega)]]
  exact pQ v (by omega) (by omega) b w hw
 rw [show sized 196 v [1,2,4] 0=big 198 1 ++ big v 4 by simp only [sized];rw [ifn (by omega)];rw [ifn (by omega)];rw [ifp (by omega)]];exact qQ v (by omega) (by omega) b w hw
theorem rZ (v : Nat) (h : v < 18446744073709551616) (b : Nat) (w : World) (hw : Own.Has w [Own.row b 3 [.int .i64 1, .int .i64 2, .int .i64 4, .int .i64 8]]) :
  Calls prog 250 #[.int .u64 204,.slice (some ⟨b,0,none⟩) 4 4,.int .u64 (v:Int)] w fun e w'=>e = .returned (.string ⟨(sized 204 v [1,2,4,8] 0).toArray⟩) /\ Below w.heap.size w w':=by
 by_cases g0:v < 256
 ·rw [show sized 204 v [1,2,4,8] 0=big 204 1 ++ big v 1 by simp only [sized];rw [ifp (by omega)]]
  exact oR v (by omega) b w hw
 by_cases g1:v < 65536
 ·rw [show sized 204 v [1,2,4,8] 0=big 205 1 ++ big v 2 by simp only [sized];rw [ifn (by omega)];rw [ifp (by omega)]]
  exact oS v (by omega) (by omega) b w hw
 by_cases g2:v < 4294967296
 ·rw [show sized 204 v [1,2,4,8] 0=big 206 1 ++ big v 4 by simp only [sized];rw [ifn (by omega)];rw [ifn (by omega)];rw [ifp (by omega)]]
  exact oJ v (by omega) (by omega) b w hw
 rw [show sized 204 v [1,2,4,8] 0=big 207 1 ++ big v 8 by simp only [sized];rw [ifn (by omega)];rw [ifn (by omega)];rw [ifn (by omega)];rw [ifp (by omega)]];exact oN v (by omega) (by omega) b w hw
end Pk
end Pip
end
section
open Go.RowKit
namespace Pip
namespace Pk
theorem aL0 (a v:Nat) (ha:a < 16) (hv:v < 16):bits .or .u64 ((a * 16:Nat):Int) (v:Int)=((a * 16 + v:Nat):Int):=by
 have:=bits_join .u64 64 (by decide) (fun n h0 h1=>by rw [IntKind.wrap_u64];omega) 4 ((a * 16:Nat):Int) (v:Int) (by omega) (by omega) (by omega) (by omega) (by omega) (by omega);rw [this];omega
theorem aA6 (m : Bool) (c : Int) (h : c < 0) (w : World) :
  Calls prog 248 #[.agg #[.bool m,.int .i64 c]] w fun e w'=>e = .returned (.tuple #[.string ⟨#[]⟩,.int .i64 7]) /\ Below w.heap.size w w':=by
 have B0:=hhh (fun o=>(Below.refl w.heap.size w).alloc (Nat.le_refl _) o)
 cases m
 all_goals
  go_enter func248,ntmps248;go_wp2;go_ret2;exact ⟨rfl,B0.o _⟩
theorem aEi (m : Bool) (n : Nat) (h : n < 16) (w : World) :
  Calls prog 248 #[.agg #[.bool m,.int .i64 (n:Int)]] w fun e w'=>e = .returned (.tuple #[.string ⟨(big ((if m then 128 else 144) + n) 1).toArray⟩,.int .i64 0]) /\ Below w.heap.size w w':=by
 have BT:=hhh (fun (o:Obj) (x:World) (b2:Below (w.alloc o).heap.size (w.alloc o) x)=>(((Below.refl w.heap.size w).alloc (Nat.le_refl _) o).trans (b2.mono (by rw [Json.size_alloc];omega)):Below w.heap.size w x));obtain ⟨V,hV⟩:∃ V:Int,V=(n:Int):=⟨_,rfl⟩;have e1:=aL0 8 n (by decide) h;have e2:=aL0 9 n (by decide) h;have HB1:=hhh (fun u=>eY (128 + n) ((128 + n:Nat):Int) rfl u);have HB2:=hhh (fun u=>eY (144 + n) ((144 + n:Nat):Int) rfl u);rw [<- hV] at e1 e2 |-;obtain ⟨K1,hK1⟩:∃ K:Int,K=((128 + n:Nat):Int):=⟨_,rfl⟩;obtain ⟨K2,hK2⟩:∃ K:Int,K=((144 + n:Nat):Int):=⟨_,rfl⟩;rw [<- hK1] at HB1;rw [<- hK2] at HB2;have q1:bits .or .u64 128 V=K1:=by rw [hK1];exact e1
 have q2:bits .or .u64 144 V=K2:=by rw [hK2];exact e2
 have g0:¬ V < 0:=by omega
 have g1:V < 16:=by omega
 have g2:¬ 4294967295 < V:=by omega
 have g3:V <= 4294967295:=by omega
 have g4:IntKind.u64.wrap V=V:=by rw [IntKind.wrap_u64];omega
 clear hV e1 e2 hK1 hK2 h
 cases m
 ·go_enter func248,ntmps248
  go_wp2_with (fail);refine (HB2.o _).mono ?_;rintro e w1 ⟨rfl,b1⟩;go_wp2;go_ret2;exact ⟨rfl,BT.o _ _ b1⟩
 ·go_enter func248,ntmps248
  go_wp2_with (fail);refine (HB1.o _).mono ?_;rintro e w1 ⟨rfl,b1⟩;go_wp2;go_ret2;exact ⟨rfl,BT.o _ _ b1⟩
theorem aAp (m : Bool) (n : Nat) (h : 16 ≤ n) (h1 : n ≤ 1000000) (w : World) :
  Calls prog 248 #[.agg #[.bool m,.int .i64 (n:Int)]] w fun e w'=>e = .returned (.tuple #[.string ⟨(sized (if m then 222 else 220) n [2,4] 0).toArray⟩,.int .i64 0]) /\ Below w.heap.size w w':=by
 have BT:=hhh (fun (o o':Obj) (x:World) (b2:Below ((w.alloc o).alloc o').heap.size ((w.alloc o).alloc o') x)=>(((((Below.refl w.heap.size w).alloc (Nat.le_refl _) o).alloc (by rw [Json.size_alloc];omega) o').trans (b2.mono (by rw [Json.size_alloc,Json.size_alloc];omega))):Below w.heap.size w x));have HA:=hhh (fun o=>((Own.aA.refl (Own.Has.nil (w.alloc o))).aP (w.heap.size + 1) (Json.size_alloc w o) 3 [.int .i64 2,.int .i64 4]).has);have HB1:=hhh (fun o=>zB n (by omega) (w.heap.size + 1) _ (HA.o o));have HB2:=hhh (fun o=>yG n (by omega) (w.heap.size + 1) _ (HA.o o));obtain ⟨V,hV⟩:∃ V:Int,V=(n:Int):=⟨_,rfl⟩;rw [<- hV] at HB1 HB2 |-;have g0:¬ V < 0:=by omega
 have g1:¬ V < 16:=by omega
 have g2:¬ 4294967295 < V:=by omega
 have g3:V <= 4294967295:=by omega
 have g4:IntKind.u64.wrap V=V:=by rw [IntKind.wrap_u64];omega
 clear hV h h1
 cases m
 ·go_enter func248,ntmps248
  go_wp2_with (fail);refine (HB2.o _).mono ?_;rintro e w1 ⟨rfl,b1⟩;go_wp2;go_ret2;exact ⟨rfl,BT.o _ _ _ b1⟩
 ·go_enter func248,ntmps248
  go_wp2_with (fail);refine (HB1.o _).mono ?_;rintro e w1 ⟨rfl,b1⟩;go_wp2;go_ret2;exact ⟨rfl,BT.o _ _ _ b1⟩
theorem tI (m : Bool) (c : Int) (h2 : c ≤ 1000000) (w : World) :
  Calls prog 248 #[.agg #[.bool m,.int .i64 c]] w fun e w'=>e = .returned (.tuple #[.string ⟨(bS m c).1.toArray⟩,.int .i64 ((bS m c).2:Int)]) /\ Below w.heap.size w w':=by
 by_cases h:c < 0
 ·rw [show bS m c=([],7) by unfold bS;rw [ifp (.inl h)]]
  exact aA6 m c h w
 ·obtain ⟨n,rfl⟩:∃ n:Nat,c=(n:Int):=⟨c.toNat,by omega⟩
  by_cases h3:n < 16
  ·rw [show bS m (n:Int)=(big ((if m then 128 else 144) + n) 1,0) by unfold bS;rw [ifn (by omega),ifp (by omega)];rfl]
   exact aEi m n h3 w
  ·rw [show bS m (n:Int)=(sized (if m then 222 else 220) n [2,4] 0,0) by unfold bS;rw [ifn (by omega),ifn (by omega)];rfl]
   exact aAp m n (by omega) (by omega) w
theorem not_eq (m:Nat) (h:m < 18446744073709551616):bits .xor .u64 18446744073709551615 (m:Int)=((18446744073709551615 - m:Nat):Int):=by
 have:=u64_xor_nat 18446744073709551615 m (by decide) h;rw [aF5 m h] at this;exact this
theorem aBh (m : Nat) (h : 9223372036854775807 < m) (w : World) :
  Calls prog 249 #[.int .u64 (m:Int)] w fun e w'=>e = .returned (.tuple #[.string ⟨#[]⟩,.int .i64 7]) /\ Below w.heap.size w w':=by
 obtain ⟨V,hV⟩:∃ V:Int,V=(m:Int):=⟨_,rfl⟩;rw [<- hV];have g:9223372036854775807 < V:=by omega
 have B0:=hhh (Below.refl w.heap.size w);clear hV h;go_enter func249,ntmps249;go_wp2;go_ret2;exact ⟨rfl,B0.o⟩
theorem aJt (m : Nat) (h1 : m < 32) (w : World) :
  Calls prog 249 #[.int .u64 (m:Int)] w fun e w'=>e = .returned (.tuple #[.string ⟨(big (18446744073709551615 - m) 1).toArray⟩,.int .i64 0]) /\ Below w.heap.size w w':=by
 have hx:=not_eq m (by omega);have HB2:=hhh (fun u=>eM (18446744073709551615 - m) u);obtain ⟨V,hV⟩:∃ V:Int,V=(m:Int):=⟨_,rfl⟩;obtain ⟨K,hK⟩:∃ K:Nat,K=18446744073709551615 - m:=⟨_,rfl⟩;rw [<- hK] at hx HB2 |-;obtain ⟨KI,hKI⟩:∃ V:Int,V=(K:Int):=⟨_,rfl⟩;rw [<- hKI] at hx HB2;rw [<- hV] at hx |-;have hx':bits .xor .u64 IntKind.u64.max V=KI:=hx;have g9:¬ 9223372036854775807 < V:=by omega
 have g9':V <= 9223372036854775807:=by omega
 have g0:V < 32:=by omega
 have BT:=hhh (fun (x:World) (b2:Below w.heap.size w x)=>b2);clear hV hK hKI h1;go_enter func249,ntmps249;go_wp2_with (fail);refine (HB2.o _).mono ?_;rintro e w1 ⟨rfl,b1⟩;go_wp2;go_ret2;exact ⟨rfl,BT.o _ b1⟩
theorem below_1 (m : Nat) (h0 : 32 ≤ m) (h1 : m < 128) (w : World) :
  Calls prog 249 #[.int .u64 (m:Int)] w fun e w'=>e = .returned (.tuple #[.string ⟨(big 208 1 ++ big (18446744073709551615 - m) 1).toArray⟩,.int .i64 0]) /\ Below w.heap.size w w':=by
 have hx:=not_eq m (by omega);have HB2:=hhh (fun u=>eM (18446744073709551615 - m) u);have HB1:=hhh (fun u=>eY 208 208 rfl u);obtain ⟨V,hV⟩:∃ V:Int,V=(m:Int):=⟨_,rfl⟩;obtain ⟨K,hK⟩:∃ K:Nat,K=18446744073709551615 - m:=⟨_,rfl⟩;rw [<- hK] at hx HB2 |-;obtain ⟨KI,hKI⟩:∃ V:Int,V=(K:Int):=⟨_,rfl⟩;rw [<- hKI] at hx HB2;rw [<- hV] at hx |-;have hx':bits .xor .u64 IntKind.u64.max V=KI:=hx;have g9:¬ 9223372036854775807 < V:=by omega
 have g9':V <= 9223372036854775807:=by omega
 have g0:¬ V < 32:=by omega
 have g1:V < 128:=by omega
 have BA:=hhh (fun (o:Obj) (x:World) (b2:Below (w.alloc o).heap.size (w.alloc o) x)=>(((Below.refl w.heap.size w).alloc (Nat.le_refl _) o).trans (b2.mono (by rw [Json.size_alloc];omega)):Below w.heap.size w x));have BT:=hhh (fun (u x:World) (b1:Below w.heap.size w u) (b2:Below u.heap.size u x)=>(b1.trans (b2.mono b1.size):Below w.heap.size w x));have hcat:=bF (big 208 1) (big K 1);obtain ⟨X1,hX1⟩:∃ S:ByteArray,S=⟨(big 208 1).toArray⟩:=⟨_,rfl⟩;obtain ⟨X2,hX2⟩:∃ S:ByteArray,S=⟨(big K 1).toArray⟩:=⟨_,rfl⟩;have z1:X1.size=1:=by rw [hX1,aL,aS]
 have z2:X2.size=1:=by rw [hX2,aL,aS]
 rw [<- hX1] at HB1;rw [<- hX2] at HB2;rw [<- hX1,<- hX2] at hcat;have Hcat:=hhh hcat;clear hcat hX1 hX2 hV hK hKI h0 h1;go_enter func249,ntmps249;go_wp2_with (fail);refine wp_loop_rounds 2 ?_;rw [rounds_succ];go_wp2_with (fail);refine (HB1.o _).mono ?_;rintro e w1 ⟨rfl,b1⟩;have C1:=hhh (BA.o _ _ b1);clear b1;go_wp2_with (fail);refine (HB2.o _).mono ?_;rintro e w2 ⟨rfl,b2⟩;have C:=hhh (BT.o _ _ C1.o b2);clear b2;go_wp2;go_ret2;exact ⟨congrArg (fun x=>Ending.returned (.tuple #[.string x,.int .i64 0])) Hcat.o,C.o⟩
theorem below_2 (m : Nat) (h0 : 128 ≤ m) (h1 : m < 32768) (w : World) :
  Calls prog 249 #[.int .u64 (m:Int)] w fun e w'=>e = .returned (.tuple #[.string ⟨(big 209 1 ++ big (18446744073709551615 - m) 2).toArray⟩,.int .i64 0]) /\ Below w.heap.size w w':=by
 have hx:=not_eq m (by omega);have HB2:=hhh (fun u=>gF (18446744073709551615 - m) u);have HB1:=hhh (fun u=>eY 209 209 rfl u);obtain ⟨V,hV⟩:∃ V:Int,V=(m:Int):=⟨_,rfl⟩;obtain ⟨K,hK⟩:∃ K:Nat,K=18446744073709551615 - m:=⟨_,rfl⟩;rw [<- hK] at hx HB2 |-;obtain ⟨KI,hKI⟩:∃ V:Int,V=(K:Int):=⟨_,rfl⟩;rw [<- hKI] at hx HB2;rw [<- hV] at hx |-;have hx':bits .xor .u64 IntKind.u64.max V=KI:=hx;have g9:¬ 9223372036854775807 < V:=by omega
 have g9':V <= 9223372036854775807:=by omega
 have g0:¬ V < 32:=by omega
 have g1:¬ V < 128:=by omega
 have g2:V < 32768:=by omega
 have BA:=hhh (fun (o:Obj) (x:World) (b2:Below (w.alloc o).heap.size (w.alloc o) x)=>(((Below.refl w.heap.size w).alloc (Nat.le_refl _) o).trans (b2.mono (by rw [Json.size_alloc];omega)):Below w.heap.size w x));have BT:=hhh (fun (u x:World) (b1:Below w.heap.size w u) (b2:Below u.heap.size u x)=>(b1.trans (b2.mono b1.size):Below w.heap.size w x));have hcat:=bF (big 209 1) (big K 2);obtain ⟨X1,hX1⟩:∃ S:ByteArray,S=⟨(big 209 1).toArray⟩:=⟨_,rfl⟩;obtain ⟨X2,hX2⟩:∃ S:ByteArray,S=⟨(big K 2).toArray⟩:=⟨_,rfl⟩;have z1:X1.size=1:=by rw [hX1,aL,aS]
 have z2:X2.size=2:=by rw [hX2,aL,aS]
 rw [<- hX1] at HB1;rw [<- hX2] at HB2;rw [<- hX1,<- hX2] at hcat;have Hcat:=hhh hcat;clear hcat hX1 hX2 hV hK hKI h0 h1;go_enter func249,ntmps249;go_wp2_with (fail);refine wp_loop_rounds 3 ?_;rw [rounds_succ];go_wp2_with (fail);rw [rounds_succ];go_wp2_with (fail);refine (HB1.o _).mono ?_;rintro e w1 ⟨rfl,b1⟩;have C1:=hhh (BA.o _ _ b1);clear b1;go_wp2_with (fail);refine (HB2.o _).mono ?_;rintro e w2 ⟨rfl,b2⟩;have C:=hhh (BT.o _ _ C1.o b2);clear b2;go_wp2;go_ret2;exact ⟨congrArg (fun x=>Ending.returned (.tuple #[.string x,.int .i64 0])) Hcat.o,C.o⟩
theorem below_3 (m : Nat) (h0 : 32768 ≤ m) (h1 : m < 2147483648) (w : World) :
  Calls prog 249 #[.int .u64 (m:Int)] w fun e w'=>e = .returned (.tuple #[.string ⟨(big 210 1 ++ big (18446744073709551615 - m) 4).toArray⟩,.int .i64 0]) /\ Below w.heap.size w w':=by
 have hx:=not_eq m (by omega);have HB2:=hhh (fun u=>gZ (18446744073709551615 - m) u);have HB1:=hhh (fun u=>eY 210 210 rfl u);obtain ⟨V,hV⟩:∃ V:Int,V=(m:Int):=⟨_,rfl⟩;obtain ⟨K,hK⟩:∃ K:Nat,K=18446744073709551615 - m:=⟨_,rfl⟩;rw [<- hK] at hx HB2 |-;obtain ⟨KI,hKI⟩:∃ V:Int,V=(K:Int):=⟨_,rfl⟩;rw [<- hKI] at hx HB2;rw [<- hV] at hx |-;have hx':bits .xor .u64 IntKind.u64.max V=KI:=hx;have g9:¬ 9223372036854775807 < V:=by omega
 have g9':V <= 9223372036854775807:=by omega
 have g0:¬ V < 32:=by omega
 have g1:¬ V < 128:=by omega
 have g2:¬ V < 32768:=by omega
 have g3:V < 2147483648:=by omega
 have BA:=hhh (fun (o:Obj) (x:World) (b2:Below (w.alloc o).heap.size (w.alloc o) x)=>(((Below.refl w.heap.size w).alloc (Nat.le_refl _) o).trans (b2.mono (by rw [Json.size_alloc];omega)):Below w.heap.size w x));have BT:=hhh (fun (u x:World) (b1:Below w.heap.size w u) (b2:Below u.heap.size u x)=>(b1.trans (b2.mono b1.size):Below w.heap.size w x));have hcat:=bF (big 210 1) (big K 4);obtain ⟨X1,hX1⟩:∃ S:ByteArray,S=⟨(big 210 1).toArray⟩:=⟨_,rfl⟩;obtain ⟨X2,hX2⟩:∃ S:ByteArray,S=⟨(big K 4).toArray⟩:=⟨_,rfl⟩;have z1:X1.size=1:=by rw [hX1,aL,aS]
 have z2:X2.size=4:=by rw [hX2,aL,aS]
 rw [<- hX1] at HB1;rw [<- hX2] at HB2;rw [<- hX1,<- hX2] at hcat;have Hcat:=hhh hcat;clear hcat hX1 hX2 hV hK hKI h0 h1;go_enter func249,ntmps249;go_wp2_with (fail);refine wp_loop_rounds 4 ?_;rw [rounds_succ];go_wp2_with (fail);rw [rounds_succ];go_wp2_with (fail);rw [rounds_succ];go_wp2_with (fail);refine (HB1.o _).mono ?_;rintro e w1 ⟨rfl,b1⟩;have C1:=hhh (BA.o _ _ b1);clear b1;go_wp2_with (fail);refine (HB2.o _).mono ?_;rintro e w2 ⟨rfl,b2⟩;have C:=hhh (BT.o _ _ C1.o b2);clear b2;go_wp2;go_ret2;exact ⟨congrArg (fun x=>Ending.returned (.tuple #[.string x,.int .i64 0])) Hcat.o,C.o⟩
theorem below_4 (m : Nat) (h0 : 2147483648 ≤ m) (h1 : m < 9223372036854775808) (w : World) :
  Calls prog 249 #[.int .u64 (m:Int)] w fun e w'=>e = .returned (.tuple #[.string ⟨(211 :: big (18446744073709551615 - m) 8).toArray⟩,.int .i64 0]) /\ Below w.heap.size w w':=by
 have hx:=not_eq m (by omega);have HB2:=hhh (fun u=>qO (18446744073709551615 - m) (by omega) u);obtain ⟨V,hV⟩:∃ V:Int,V=(m:Int):=⟨_,rfl⟩;obtain ⟨K,hK⟩:∃ K:Nat,K=18446744073709551615 - m:=⟨_,rfl⟩;rw [<- hK] at hx HB2 |-;obtain ⟨KI,hKI⟩:∃ V:Int,V=(K:Int):=⟨_,rfl⟩;rw [<- hKI] at hx HB2;rw [<- hV] at hx |-;have hx':bits .xor .u64 IntKind.u64.max V=KI:=hx;have g9:¬ 9223372036854775807 < V:=by omega
 have g9':V <= 9223372036854775807:=by omega
 have g0:¬ V < 32:=by omega
 have g1:¬ V < 128:=by omega
 have g2:¬ V < 32768:=by omega
 have g3:¬ V < 2147483648:=by omega
 have BA:=hhh (fun (o:Obj) (x:World) (b2:Below (w.alloc o).heap.size (w.alloc o) x)=>(((Below.refl w.heap.size w).alloc (Nat.le_refl _) o).trans (b2.mono (by rw [Json.size_alloc];omega)):Below w.heap.size w x));have BT:=hhh (fun (u x:World) (b1:Below w.heap.size w u) (b2:Below u.heap.size u x)=>(b1.trans (b2.mono b1.size):Below w.heap.size w x));have hcat:=bF [211] (big K 8);obtain ⟨X2,hX2⟩:∃ S:ByteArray,S=⟨(big K 8).toArray⟩:=⟨_,rfl⟩;have z2:X2.size=8:=by rw [hX2,aL,aS]
 rw [<- hX2] at HB2;rw [<- hX2] at hcat;have Hcat:=hhh hcat;clear hcat hX2 hV hK hKI h0 h1;go_enter func249,ntmps249;go_wp2_with (fail);refine wp_loop_rounds 4 ?_;rw [rounds_succ];go_wp2_with (fail);rw [rounds_succ];go_wp2_with (fail);rw [rounds_succ];go_wp2_with (fail);rw [rounds_succ];go_wp2_with (fail);refine (HB2.o _).mono ?_;rintro e w1 ⟨rfl,b1⟩;have C1:=hhh (BA.o _ _ b1);clear b1;go_wp2;go_ret2;exact ⟨congrArg (fun x=>Ending.returned (.tuple #[.string x,.int .i64 0])) Hcat.o,C1.o⟩
theorem aEh (m : Nat) (h : m < 18446744073709551616) (w : World) :
  Calls prog 249 #[.int .u64 (m:Int)] w fun e w'=>e = .returned (.tuple #[.string ⟨(bX m).1.toArray⟩,.int .i64 ((bX m).2:Int)]) /\ Below w.heap.size w w':=by
 by_cases g:9223372036854775807 < m
 ·rw [show bX m=([],7) by unfold bX;rw [ifp g]]
  exact aBh m g w
 by_cases g0:m < 32
 ·rw [show bX m=(big (18446744073709551615 - m) 1,0) by unfold bX;rw [ifn g,ifp g0]]
  exact aJt m g0 w
 by_cases g1:m < 128
 ·rw [show bX m=(big 208 1 ++ big (18446744073709551615 - m) 1,0) by unfold bX;rw [ifn g,ifn g0,ifp g1]]
  exact below_1 m (by omega) g1 w
 by_cases g2:m < 32768
 ·rw [show bX m=(big 209 1 ++ big (18446744073709551615 - m) 2,0) by unfold bX;rw [ifn g,ifn g0,ifn g1,ifp g2]]
  exact below_2 m (by omega) g2 w
 by_cases g3:m < 2147483648
 ·rw [show bX m=(big 210 1 ++ big (18446744073709551615 - m) 4,0) by unfold bX;rw [ifn g,ifn g0,ifn g1,ifn g2,ifp g3]]
  exact below_3 m (by omega) g3 w
 ·rw [show bX m=(211 :: big (18446744073709551615 - m) 8,0) by unfold bX;rw [ifn g,ifn g0,ifn g1,ifn g2,ifn g3]]
  exact below_4 m (by omega) (by omega) w
end Pk
end Pip
end
section
open Go.RowKit
open Json (Part)
namespace Pip
namespace Pk
theorem nB (F v:Nat) (l:List Nat) (i:Nat) (h:∀ n ∈ l,n <= 8):(sized F v l i).length <= 9:=by
 induction l generalizing i with
 | nil=>simp [sized]
 | cons n l ih =>
  unfold sized;split
  ·have:=h n mcs
   simp [aS];omega
  ·exact ih _ fun m hm=>h m (mcm _ hm)
theorem aMc (v:Nat) (hv:v < 32):bits .or .u64 160 (v:Int)=((160 + v:Nat):Int):=aCv 5 v (by decide) hv
theorem dR (p : Part) (hp : Fine p) (hgb : p.isBegin = false) (hgc : p.isClose = false) (w : World) :
  Calls prog 247 #[p.val] w fun e w'=>e = .returned (.tuple #[.string ⟨(packPlain p).1.toArray⟩,.int .i64 ((packPlain p).2:Int)]) /\ Below w.heap.size w w':=by
 have a1:=Json.asBool p;have a2:=Json.mR p;have a3:=Json.jA p;have a4:=Json.rW p;have B0:=hhh (fun o=>(Below.refl w.heap.size w).alloc (Nat.le_refl _) o);have BE:=hhh (fun (o:Obj) (x:World) (b2:Below (w.alloc o).heap.size (w.alloc o) x)=>(((Below.refl w.heap.size w).alloc (Nat.le_refl _) o).trans (b2.mono (by rw [Json.size_alloc];omega)):Below w.heap.size w x));have BE2:=hhh (fun (o o':Obj) (x:World) (b2:Below ((w.alloc o).alloc o').heap.size ((w.alloc o).alloc o') x)=>(((((Below.refl w.heap.size w).alloc (Nat.le_refl _) o).alloc (by rw [Json.size_alloc];omega) o').trans (b2.mono (by rw [Json.size_alloc,Json.size_alloc];omega))):Below w.heap.size w x));have HA3:=hhh (fun o=>((Own.aA.refl (Own.Has.nil (w.alloc o))).aP (w.heap.size + 1) (Json.size_alloc w o) 3 [.int .i64 1,.int .i64 2,.int .i64 4]).has);have HA4:=hhh (fun o=>((Own.aA.refl (Own.Has.nil (w.alloc o))).aP (w.heap.size + 1) (Json.size_alloc w o) 3 [.int .i64 1,.int .i64 2,.int .i64 4,.int .i64 8]).has);obtain ⟨V,hV⟩:∃ V,V=p.val:=⟨_,rfl⟩;rw [<- hV] at a1 a2 a3 a4 |-;have hsm:=hp.small;have htx:=hp.text;have hmay:=hp.may;clear hp hV
 cases p with
 | bool b =>
  clear hsm htx hmay hgb hgc;rw [show (Part.bool b).isBool=true from rfl,show (Part.bool b).inBool = .bool b from rfl] at a1
  cases b
  all_goals
   go_enter func247,ntmps247;go_wp2;go_ret2;exact ⟨rfl,Below.refl _ _⟩
 | whole n m =>
  have hm:m < 18446744073709551616:=hsm;rw [show (Part.whole n m).isBool=false from rfl,show (Part.whole n m).inBool = .bool false from rfl] at a1;rw [show (Part.whole n m).isWhole=true from rfl,show (Part.whole n m).inWhole = .agg #[.bool n,.int .u64 (m:Int)] from rfl] at a2
  cases n
  ·by_cases h1:m < 128
   ·have HP:=hhh (show packPlain (.whole false m)=(big m 1,0) by simp only [packPlain,ifp h1])
    have HB:=hhh (fun u=>eM m u);obtain ⟨M,hM⟩:∃ M:Int,M=(m:Int):=⟨_,rfl⟩;rw [<- hM] at HB a2;have g1:M < 128:=by omega
    clear htx hsm hmay hgb hgc hM h1 hm;go_enter func247,ntmps247;go_wp2_with (fail);refine (HB.o _).mono ?_;rintro e w1 ⟨rfl,b1⟩;go_wp2;go_ret2;rw [HP.o];exact ⟨rfl,BE.o _ _ b1⟩
   ·have HP:=hhh (show packPlain (.whole false m)=(sized 204 m [1,2,4,8] 0,0) by simp only [packPlain,ifn h1])
    have HB:=hhh (fun o=>rZ m hm (w.heap.size + 1) _ (HA4.o o));obtain ⟨M,hM⟩:∃ M:Int,M=(m:Int):=⟨_,rfl⟩;rw [<- hM] at HB a2;have g1:¬ M < 128:=by omega
    clear htx hsm hmay hgb hgc hM h1 hm;go_enter func247,ntmps247;go_wp2_with (fail);refine (HB.o _).mono ?_;rintro e w1 ⟨rfl,b1⟩;go_wp2;go_ret2;rw [HP.o];exact ⟨rfl,BE2.o _ _ _ b1⟩
  ·have HP:=hhh (show packPlain (.whole true m)=bX m from rfl)
   have HB:=hhh (fun u=>aEh m hm u);obtain ⟨M,hM⟩:∃ M:Int,M=(m:Int):=⟨_,rfl⟩;rw [<- hM] at HB a2;clear htx hsm hmay hgb hgc hM hm;go_enter func247,ntmps247;go_wp2_with (fail);refine (HB.o _).mono ?_;rintro e w1 ⟨rfl,b1⟩;go_wp2;go_ret2;rw [HP.o];exact ⟨rfl,BE.o _ _ b1⟩
 | word s =>
  have hs:s.size <= 200:=htx s (.inl rfl);rw [show (Part.word s).isBool=false from rfl,show (Part.word s).inBool = .bool false from rfl] at a1;rw [show (Part.word s).isWhole=false from rfl,show (Part.word s).inWhole = .agg #[.bool false,.int .u64 0] from rfl] at a2;rw [show (Part.word s).isWord=true from rfl,show (Part.word s).inWord = .string s from rfl] at a3;by_cases h1:s.size < 32
  ·have HP:=hhh (show packPlain (.word s)=(big (160 + s.size) 1 ++ bytesOf s,0) by simp only [packPlain,ifp h1])
   have HB:=hhh (fun u=>eY (160 + s.size) ((160 + s.size:Nat):Int) rfl u);have eo:=aMc s.size h1;obtain ⟨K,hK⟩:∃ K:Int,K=((160 + s.size:Nat):Int):=⟨_,rfl⟩;rw [<- hK] at HB eo;have HC:=hhh (Cb.jS (big (160 + s.size) 1) s);have hz:(⟨(big (160 + s.size) 1).toArray⟩:ByteArray).size=1:=by rw [aL,aS]
   generalize hX:(⟨(big (160 + s.size) 1).toArray⟩:ByteArray)=X1 at HB HC hz;have g1:(s.size:Int) < 32:=by omega
   have g2:IntKind.u64.wrap (s.size:Int)=(s.size:Int):=by rw [IntKind.wrap_u64];omega
   clear hX hK htx hsm hmay hgb hgc;go_enter func247,ntmps247;go_wp2_with (fail);refine (HB.o _).mono ?_;rintro e w1 ⟨rfl,b1⟩;go_wp2;go_ret2;rw [HP.o];exact ⟨congrArg (fun x=>Ending.returned (.tuple #[.string x,.int .i64 0])) HC.o,BE.o _ _ b1⟩
  ·have HP:=hhh (show packPlain (.word s)=(sized 217 s.size [1,2,4] 0 ++ bytesOf s,0) by simp only [packPlain,ifn h1])
   have HB:=hhh (fun o=>vH s.size (by omega) (w.heap.size + 1) _ (HA3.o o));have HC:=hhh (Cb.jS (sized 217 s.size [1,2,4] 0) s);have hz:(⟨(sized 217 s.size [1,2,4] 0).toArray⟩:ByteArray).size <= 9:=by rw [aL];exact nB _ _ _ _ (by decide)
   generalize hX:(⟨(sized 217 s.size [1,2,4] 0).toArray⟩:ByteArray)=X1 at HB HC hz;have g1:¬ (s.size:Int) < 32:=by omega
   have g2:IntKind.u64.wrap (s.size:Int)=(s.size:Int):=by rw [IntKind.wrap_u64];omega
   clear hX htx hsm hmay hgb hgc;go_enter func247,ntmps247;go_wp2_with (fail);refine (HB.o _).mono ?_;rintro e w1 ⟨rfl,b1⟩;go_wp2;go_ret2;rw [HP.o];exact ⟨congrArg (fun x=>Ending.returned (.tuple #[.string x,.int .i64 0])) HC.o,BE2.o _ _ _ b1⟩
 | cW s =>
  have hs:s.size <= 200:=htx s (.inr rfl);rw [show (Part.cW s).isBool=false from rfl,show (Part.cW s).inBool = .bool false from rfl] at a1;rw [show (Part.cW s).isWhole=false from rfl,show (Part.cW s).inWhole = .agg #[.bool false,.int .u64 0] from rfl] at a2;rw [show (Part.cW s).isWord=false from rfl,show (Part.cW s).inWord = .string ⟨#[]⟩ from rfl] at a3;rw [show (Part.cW s).isBlob=true from rfl,show (Part.cW s).inBlob = .string s from rfl] at a4;have HP:=hhh (show packPlain (.cW s)=(sized 196 s.size [1,2,4] 0 ++ bytesOf s,0) from rfl);have HB:=hhh (fun o=>vU s.size (by omega) (w.heap.size + 1) _ (HA3.o o));have HC:=hhh (Cb.jS (sized 196 s.size [1,2,4] 0) s);have hz:(⟨(sized 196 s.size [1,2,4] 0).toArray⟩:ByteArray).size <= 9:=by rw [aL];exact nB _ _ _ _ (by decide)
  generalize hX:(⟨(sized 196 s.size [1,2,4] 0).toArray⟩:ByteArray)=X1 at HB HC hz;have g2:IntKind.u64.wrap (s.size:Int)=(s.size:Int):=by rw [IntKind.wrap_u64];omega
  clear hX htx hsm hmay hgb hgc;go_enter func247,ntmps247;go_wp2_with (fail);refine (HB.o _).mono ?_;rintro e w1 ⟨rfl,b1⟩;go_wp2;go_ret2;rw [HP.o];exact ⟨congrArg (fun x=>Ending.returned (.tuple #[.string x,.int .i64 0])) HC.o,BE2.o _ _ _ b1⟩
 | null =>
  clear htx hsm hmay hgb hgc;rw [show Part.null.isBool=false from rfl,show Part.null.inBool = .bool false from rfl] at a1;rw [show Part.null.isWhole=false from rfl,show Part.null.inWhole = .agg #[.bool false,.int .u64 0] from rfl] at a2;rw [show Part.null.isWord=false from rfl,show Part.null.inWord = .string ⟨#[]⟩ from rfl] at a3;rw [show Part.null.isBlob=false from rfl,show Part.null.inBlob = .string ⟨#[]⟩ from rfl] at a4;go_enter func247,ntmps247;go_wp2;go_ret2;exact ⟨rfl,B0.o _⟩
 | aG m c=>cases hgb
 | close=>cases hgc
 | other b=>cases hmay
end Pk
end Pip
end
section
open Go.RowKit
open Json (Part)
namespace Pip
namespace Pk
theorem yL (W:Cw) (p:Part) (hm:p.may=true) (hd:W.done=false) (hc:p.isClose=false) (h:W.may p ≠ 0):W.pack p=([],W.may p,W):=by
 unfold Cw.pack;rw [ifn (by simp [hm,hd])]
 cases p with
 | close=>cases hc
 | _=>exact ifp h
theorem rO (W : Cw) (p : Part) (hm : p.may = true) (hd : W.done = false) (hc : p.isClose = false) (hg : p.isBegin = false) (h : W.may p = 0) :
  W.pack p=if (packPlain p).2 ≠ 0 then ([],(packPlain p).2,W) else ((packPlain p).1,0,⟨W.aR,decide (W.opened=[])⟩):=by
 unfold Cw.pack;rw [ifn (by simp [hm,hd])]
 cases p with
 | close=>cases hc
 | aG m c=>cases hg
 | _=>exact ifn (by simp [h])
theorem rY (W : Cw) (m : Bool) (c : Int) (hm : (Part.aG m c).may = true) (hd : W.done = false) (h : W.may (.aG m c) = 0) :
  W.pack (.aG m c)=if (bS m c).2 ≠ 0 then ([],(bS m c).2,W) else ((bS m c).1,0,⟨W.aR ++ [⟨m,c,0⟩],false⟩):=by
 unfold Cw.pack;rw [ifn (by simp [hm,hd])];exact ifn (by simp [h])
theorem infoP:(prog.info? 304).map (fun i=>(i.zero,i.size,i.bytes))=some (some (.agg #[.bool false,.int .i64 0,.int .i64 0]),3,24):=by kernel_rfl
theorem kW (L:List Crt) (c:Crt) (d:Bool) (h:c.full=false):(Cw.mk (L ++ [c]) d).dF=([],14,Cw.mk (L ++ [c]) d):=by
 simp only [Cw.dF,List.getLast?_append,List.getLast?_singleton,Option.some_or,ifp h]
theorem jB (L:List Crt) (c:Crt) (d:Bool) (h:¬ c.full=false):(Cw.mk (L ++ [c]) d).dF=([],0,Cw.mk L (decide (L.length=0))):=by
 simp only [Cw.dF,List.getLast?_append,List.getLast?_singleton,Option.some_or,ifn h];simp
theorem nW (m : Bool) (c : Int) (w : World) :
  Calls prog 247 #[(Part.aG m c).val] w fun e w'=>e = .returned (.tuple #[.string ⟨([192]:List UInt8).toArray⟩,.int .i64 0]) /\ Below w.heap.size w w':=by
 have a1:=Json.asBool (.aG m c);have a2:=Json.mR (.aG m c);have a3:=Json.jA (.aG m c);have a4:=Json.rW (.aG m c);have B0:=hhh (fun o=>(Below.refl w.heap.size w).alloc (Nat.le_refl _) o);obtain ⟨V,hV⟩:∃ V,V=(Part.aG m c).val:=⟨_,rfl⟩;rw [<- hV] at a1 a2 a3 a4 |-;rw [show (Part.aG m c).isBool=false from rfl,show (Part.aG m c).inBool = .bool false from rfl] at a1;rw [show (Part.aG m c).isWhole=false from rfl,show (Part.aG m c).inWhole = .agg #[.bool false,.int .u64 0] from rfl] at a2;rw [show (Part.aG m c).isWord=false from rfl,show (Part.aG m c).inWord = .string ⟨#[]⟩ from rfl] at a3;rw [show (Part.aG m c).isBlob=false from rfl,show (Part.aG m c).inBlob = .string ⟨#[]⟩ from rfl] at a4;clear hV;go_enter func247,ntmps247;go_wp2;go_ret2;exact ⟨rfl,B0.o _⟩
theorem gW {W : Cw} {wb n : Nat} {h : Own.Heap} {w : World} (hi : Is W wb h) (hw : Own.Has w h) (hf : W.Fits n) (hn : n ≤ 100000) (hd : W.done = false) :
  Calls prog 244 #[.pointer (some ⟨wb,0,none⟩),Part.close.val] w fun e w'=>e = .returned (.tuple #[.string ⟨W.dF.1.toArray⟩,.int .i64 (W.dF.2.1:Int)]) /\
   ∃ h',Is W.dF.2.2 wb h' /\ Own.aA h h' w w':=by
 have a5:=Json.eK .close;obtain ⟨V,hV⟩:∃ V,V=Part.close.val:=⟨_,rfl⟩;obtain ⟨a,b,m,s,c,hc⟩:=Json.cB .close V hV w;rw [<- hV] at a5 |-;rw [show Part.close.may=true from rfl] at hc;rw [show Part.close.isClose=true from rfl,show Part.close.inClose = .agg #[] from rfl] at a5;have HC:=hhh hc;clear hc hV;obtain ⟨l,d⟩:=W;simp only at hd;subst hd;have hI:=hhh hi;have hW:=hhh hw;rcases List.eq_nil_or_concat l with rfl | ⟨L,c,rfl⟩
 ·obtain ⟨a,cc,hl,rfl,hs⟩:=hi.head
  simp only [List.length_nil] at hs hw hW hI;clear hs hw hi;go_enter func244,ntmps244;go_wp2_with (fail);refine HC.o.mono ?_;rintro e W1 ⟨rfl,b1⟩;have t1:=Own.aA.aJ hW.o b1;have c1:=fun o=>(t1.aD o).has.cell wb _ _ mcs 1 _ rfl
  have c0:=fun o=>(t1.aD o).has.cell wb _ _ mcs 0 _ rfl
  go_wp2;go_ret2;exact ⟨rfl,_,hI.o,(t1.aD _).aD _⟩
 ·rw [List.concat_eq_append] at *
  obtain ⟨b2,m,spare,rfl,hsl,hm⟩:=hi.last L c rfl;obtain ⟨N,hN⟩:∃ N,N=L.length:=⟨_,rfl⟩;have hN1:N < 100000:=by have:=hf.deep;simp at this;omega
  have hc:c.parts <= 1000000:=by have:=hf.parts c (by simp);omega
  have HU:=hhh (fun u=>fZ c.pairs c.count c.parts hc u)
  have CF:=hhh (fun (u:World) (t:Own.aA [Own.row wb 153 [.slice (some ⟨b2,0,none⟩) (L.length + 1) (L.length + 1 + m),.bool false],Own.row b2 304 (aW L ++ ([.bool c.pairs,.int .i64 c.count,.int .i64 (c.parts:Int)] ++ spare))] [Own.row wb 153 [.slice (some ⟨b2,0,none⟩) (L.length + 1) (L.length + 1 + m),.bool false],Own.row b2 304 (aW L ++ ([.bool c.pairs,.int .i64 c.count,.int .i64 (c.parts:Int)] ++ spare))] w u)=>by
   have c0:=t.has.cell wb _ _ mcs 0 _ rfl;have c1:=t.has.cell wb _ _ mcs 1 _ rfl;have f0:=t.has.free wb _ _ mcs 0;have f1:=t.has.free wb _ _ mcs 1;have e0:=t.has.cell b2 _ _ (mcm _ mcs) (N * 3) (.bool c.pairs) (by rw [hN,<- aU,List.getElem?_append_right (by omega)];simp);have e1:=t.has.cell b2 _ _ (mcm _ mcs) (N * 3 + 1) (.int .i64 c.count) (by rw [hN,<- aU,List.getElem?_append_right (by omega)];simp);have e2:=t.has.cell b2 _ _ (mcm _ mcs) (N * 3 + 2) (.int .i64 (c.parts:Int)) (by rw [hN,<- aU,List.getElem?_append_right (by omega)];simp);rw [<- hN] at c0
   exact ai c0 (ai c1 (ai f0 (ai f1 (ai e0 (ai e1 e2))))))
  have HF:=hhh (fun (u:World) (t:Own.aA [Own.row wb 153 [.slice (some ⟨b2,0,none⟩) (L.length + 1) (L.length + 1 + m),.bool false],Own.row b2 304 (aW L ++ ([.bool c.pairs,.int .i64 c.count,.int .i64 (c.parts:Int)] ++ spare))] [Own.row wb 153 [.slice (some ⟨b2,0,none⟩) (L.length + 1) (L.length + 1 + m),.bool false],Own.row b2 304 (aW L ++ ([.bool c.pairs,.int .i64 c.count,.int .i64 (c.parts:Int)] ++ spare))] w u) =>
   (show Own.aA [Own.row wb 153 [.slice (some ⟨b2,0,none⟩) (L.length + 1) (L.length + 1 + m),.bool false],Own.row b2 304 (aW L ++ ([.bool c.pairs,.int .i64 c.count,.int .i64 (c.parts:Int)] ++ spare))] [Own.row wb 153 [.slice (some ⟨b2,0,none⟩) N (N + 1 + m),.bool ((N:Int) == 0)],Own.row b2 304 (aW L ++ ([.bool c.pairs,.int .i64 c.count,.int .i64 (c.parts:Int)] ++ spare))] w ((u.setCell ⟨wb,0,none⟩ (.slice (some ⟨b2,0,none⟩) N (N + 1 + m))).setCell ⟨wb,1,none⟩ (.bool ((N:Int) == 0))) from
    (t.set 0 (.slice (some ⟨b2,0,none⟩) N (N + 1 + m)) (by simp)).set 1 (.bool ((N:Int) == 0)) (by simp)))
  have hdec:=hhh (show ((N:Int) == 0)=decide (L.length=0) by rw [hN,Bool.eq_iff_iff];simp)
  have HI:=hhh (fun (d:Bool)=>by
   have:=Is.of (wb:=wb) (b:=b2) (m:=m + 1) L ([.bool c.pairs,.int .i64 c.count,.int .i64 (c.parts:Int)] ++ spare) d (by simp;omega) (by omega);rw [show L.length + (m + 1)=N + 1 + m by omega,<- hN] at this
   exact this)
  have hk1:((N:Int) + 1) - 1=(N:Int):=by omega
  rw [<- hN] at CF HF hW hI |-;simp only at hW hI;clear hN hw hi hf hm hsl;obtain ⟨y,k,q⟩:=c;simp only at *
  generalize hu:(Crt.mk y k q).full=ft at HU;have Hu:=hhh hu;clear hu;go_enter func244,ntmps244;go_wp2_with (fail);refine HC.o.mono ?_;rintro e W1 ⟨rfl,b1⟩;have T1:=hhh (Own.aA.aJ hW.o b1);have c1:=fun o=>(CF.o _ (T1.o.aD o)).2.1
  have c0:=fun o=>(CF.o _ (T1.o.aD o)).1
  have c0':=fun o o'=>(CF.o _ ((T1.o.aD o).aD o')).1
  have e0:=fun o o'=>(CF.o _ ((T1.o.aD o).aD o')).2.2.2.2.1
  have e1:=fun o o'=>(CF.o _ ((T1.o.aD o).aD o')).2.2.2.2.2.1
  have e2:=fun o o'=>(CF.o _ ((T1.o.aD o).aD o')).2.2.2.2.2.2
  clear b1;go_wp2_with (fail);refine (HU.o _).mono ?_;rintro e W2 ⟨rfl,b2'⟩;have T2:=hhh (((T1.o.aD _).aD _).trans (Own.aA.aJ ((T1.o.aD _).aD _).has b2'));clear b2' c0 c1 c0' e0 e1 e2;obtain ⟨c0,c1,f0,f1,-⟩:=CF.o _ T2.o
  cases ft
  ·go_wp2
   go_ret2;rw [kW L ⟨y,k,q⟩ false Hu.o];exact ⟨rfl,_,hI.o,T2.o⟩
  ·have hne:¬ wb=b2:=fun e=>by
    have:=T2.o.has.once;rw [e] at this;simp [Own.blocks,Own.row] at this
   go_wp2;go_ret2;rw [jB L ⟨y,k,q⟩ false (by rw [Hu.o];simp)];have t3:=HF.o _ T2.o;simp only [hdec.o] at t3 |-;exact ⟨rfl,_,HI.o _,t3⟩
end Pk
end Pip
end
section
open Go.RowKit
open Json (Part)
namespace Pip
namespace Pk
theorem rH {wb : Nat} {h : Own.Heap} {w : World} (hi : Is (Cw.mk [] false) wb h) (hw : Own.Has w h) (p : Part) (hp : Fine p) (hc : p.isClose = false) (hgb : p.isBegin = false) :
  Calls prog 244 #[.pointer (some ⟨wb,0,none⟩),p.val] w fun e w'=>e = .returned (.tuple #[.string ⟨((Cw.mk [] false).pack p).1.toArray⟩,.int .i64 (((Cw.mk [] false).pack p).2.1:Int)]) /\
   ∃ h',Is ((Cw.mk [] false).pack p).2.2 wb h' /\ Own.aA h h' w w':=by
 have hm:=hp.may;have a5:=Json.eK p;have a6:=Json.eP p;obtain ⟨o,e,ho⟩:∃ o e,packPlain p=(o,e):=⟨_,_,rfl⟩;have HT:=hhh (fun u=>dR p hp hgb hc u);rw [ho] at HT;have hst:=hhh (rO (Cw.mk [] false) p hm rfl hc hgb rfl);rw [ho] at hst;have hib:p.inBegin = .agg #[.bool false,.int .i64 0]:=by cases p <;> first | rfl | cases hgb
 rw [hgb,hib] at a6;obtain ⟨V,hV⟩:∃ V,V=p.val:=⟨_,rfl⟩;obtain ⟨a,b,m,s,c,hpl⟩:=Json.cB p V hV w;rw [<- hV] at a5 a6 HT |-;clear hV;rw [hm] at hpl;have HC:=hhh hpl;clear hpl;have h5:p.inClose = .agg #[]:=rfl;rw [hc,h5] at a5;have hW:=hhh hw;have hI:=hhh hi;obtain ⟨ad,cc,hl,rfl,hs⟩:=hi.head;have hS:=hhh hs;simp only [List.length_nil] at hS hW hI;clear hs hw hi hp hm hc h5 hib hgb ho;by_cases he:e=0
 ·subst he
  go_enter func244,ntmps244;go_wp2_with (fail);refine HC.o.mono ?_;rintro e W1 ⟨rfl,b1⟩;have t1:=Own.aA.aJ hW.o b1;have c1:=fun o=>(t1.aD o).has.cell wb _ _ mcs 1 _ rfl
  have c0:=fun o=>(t1.aD o).has.cell wb _ _ mcs 0 _ rfl
  have T2:=hhh (fun o o'=>(t1.aD o).aD o');clear t1;go_wp2_with (fail);refine (HT.o _).mono ?_;rintro e W2 ⟨rfl,b2⟩;have t5:=hhh (fun o=>((T2.o _ _).trans (Own.aA.aJ (T2.o _ _).has b2)).aD o);have f1:=fun o=>(t5.o o).has.free wb _ _ mcs 1
  have d1:=fun o=>(t5.o o).has.cell wb _ _ mcs 1 _ rfl
  clear b2 c0 c1;go_wp2;go_ret2;rw [hst.o,ifn (by simp)];refine ⟨rfl,_,?_,(t5.o _).set 1 (.bool true) (by simp)⟩;exact ⟨_,_,rfl,hS.o⟩
 ·have hb:(((e:Nat):Int) != 0)=true:=by simpa using he
  have He:=hhh he;clear he;go_enter func244,ntmps244;go_wp2_with (fail);refine HC.o.mono ?_;rintro e W1 ⟨rfl,b1⟩;have t1:=Own.aA.aJ hW.o b1;have c1:=fun o=>(t1.aD o).has.cell wb _ _ mcs 1 _ rfl
  have c0:=fun o=>(t1.aD o).has.cell wb _ _ mcs 0 _ rfl
  have T2:=hhh (fun o o'=>(t1.aD o).aD o');clear t1;go_wp2_with (fail);refine (HT.o _).mono ?_;rintro e W2 ⟨rfl,b2⟩;have t5:=hhh (fun o=>((T2.o _ _).trans (Own.aA.aJ (T2.o _ _).has b2)).aD o);clear b2 c0 c1;go_wp2;go_ret2;rw [hst.o,ifp He.o];exact ⟨rfl,_,hI.o,t5.o _⟩
theorem rE {wb : Nat} {h : Own.Heap} {w : World} (hi : Is (Cw.mk [] false) wb h) (hw : Own.Has w h) (m2 : Bool) (q2 : Int) (hp : Fine (.aG m2 q2)) :
  Calls prog 244 #[.pointer (some ⟨wb,0,none⟩),(Part.aG m2 q2).val] w fun e w'=>e = .returned (.tuple #[.string ⟨((Cw.mk [] false).pack (.aG m2 q2)).1.toArray⟩,.int .i64 (((Cw.mk [] false).pack (.aG m2 q2)).2.1:Int)]) /\
   ∃ h',Is ((Cw.mk [] false).pack (.aG m2 q2)).2.2 wb h' /\ Own.aA h h' w w':=by
 have hq:=hp.count m2 q2 rfl;have a5:=Json.eK (.aG m2 q2);have a6:=Json.eP (.aG m2 q2);have HT:=hhh (fun u=>nW m2 q2 u);have HB:=hhh (fun u=>tI m2 q2 (by omega) u);have hst:=hhh (rY (Cw.mk [] false) m2 q2 hp.may rfl rfl);obtain ⟨o,e,ho⟩:∃ o e,bS m2 q2=(o,e):=⟨_,_,rfl⟩;rw [ho] at HB hst;rw [show (Part.aG m2 q2).isBegin=true from rfl,show (Part.aG m2 q2).inBegin = .agg #[.bool m2,.int .i64 q2] from rfl] at a6;obtain ⟨V,hV⟩:∃ V,V=(Part.aG m2 q2).val:=⟨_,rfl⟩;obtain ⟨a,b,m,s,c,hpl⟩:=Json.cB (.aG m2 q2) V hV w;rw [<- hV] at a5 a6 HT |-;clear hV;rw [hp.may] at hpl;have HC:=hhh hpl;clear hpl;rw [show (Part.aG m2 q2).isClose=false from rfl,show (Part.aG m2 q2).inClose = .agg #[] from rfl] at a5;have hW:=hhh hw;have hI:=hhh hi;obtain ⟨ad,cc,hl,rfl,hs⟩:=hi.head;have hS:=hhh hs;simp only [List.length_nil] at hS hW hI;clear hs hw hi hp ho;obtain ⟨i0,hi,hz0,hz1,hz2⟩:=info_parts (P:=prog) (e:=304) (z:=.agg #[.bool false,.int .i64 0,.int .i64 0]) (size:=3) (bytes:=24) infoP;have Hi:=hhh (ai hi (ai hz0 (ai hz1 hz2)));clear hi hz0 hz1 hz2;by_cases he:e=0
 ·subst he
  go_enter func244,ntmps244;go_wp2_with (fail);refine HC.o.mono ?_;rintro e W1 ⟨rfl,b1⟩;have t1:=Own.aA.aJ hW.o b1;have c1:=fun o=>(t1.aD o).has.cell wb _ _ mcs 1 _ rfl
  have c0:=fun o=>(t1.aD o).has.cell wb _ _ mcs 0 _ rfl
  have T2:=hhh (fun o o'=>(t1.aD o).aD o');clear t1;go_wp2_with (fail);refine (HT.o _).mono ?_;rintro e W2 ⟨rfl,b2⟩;have T3:=hhh (((T2.o _ _).trans (Own.aA.aJ (T2.o _ _).has b2)).aP W2.heap.size rfl 218 [.bool m2,.int .i64 q2]);have g0:=T3.o.has.cell W2.heap.size _ _ mcs 0 _ rfl;have g1:=T3.o.has.cell W2.heap.size _ _ mcs 1 _ rfl;clear b2 c0 c1;go_wp2_with (fail);refine (HB.o _).mono ?_;rintro e W3 ⟨rfl,b3⟩;have T4:=hhh (T3.o.trans (Own.aA.aJ T3.o.has b3));clear b3 g0 g1;have g0:=T4.o.has.cell W2.heap.size _ _ mcs 0 _ rfl;have g1:=T4.o.has.cell W2.heap.size _ _ mcs 1 _ rfl;have c0:=T4.o.has.cell wb _ _ (mcm _ mcs) 0 _ rfl;have c0':=fun o=>(T4.o.aD o).has.cell wb _ _ (mcm _ mcs) 0 _ rfl
  have g0':=fun o=>(T4.o.aD o).has.cell W2.heap.size _ _ mcs 0 _ rfl
  have g1':=fun o=>(T4.o.aD o).has.cell W2.heap.size _ _ mcs 1 _ rfl
  have hne:¬ wb=W2.heap.size:=fun e=>by
   have:=T4.o.has.once;rw [e] at this;simp [Own.blocks,Own.row] at this
  have hne':¬ W2.heap.size=wb:=fun e=>hne e.symm
  have hA1 : Own.aA (Own.row wb 153 [.slice ad 0 cc, .bool false] :: hl) (Own.row W3.heap.size 304 [.bool m2, .int .i64 q2, .int .i64 0] :: Own.row W2.heap.size 218 [.bool m2, .int .i64 q2] :: Own.row wb 153 [.slice ad 0 cc, .bool false] :: hl) w
    ((W3.alloc (.cells #[.bool m2,.int .i64 q2,.int .i64 0] 304)).drew):=Own.aA.drew (Own.aA.alloc T4.o (.cells #[.bool m2,.int .i64 q2,.int .i64 0] 304))
  have hA2 : Own.aA (Own.row wb 153 [.slice ad 0 cc, .bool false] :: hl) (Own.row W3.heap.size 304 [.bool m2, .int .i64 q2, .int .i64 0] :: (hl ++ [Own.row wb 153 [.slice ad 0 cc, .bool false], Own.row W2.heap.size 218 [.bool m2, .int .i64 q2]])) w
    ((W3.alloc (.cells #[.bool m2,.int .i64 q2,.int .i64 0] 304)).drew):=hA1.perm (.refl _) (Own.aE _ _ fun x=>by simp only [List.count_append,List.count_cons,List.count_nil];omega)
  have HW:=hhh hA2;clear hA1 hA2;go_wp2_with (fail);go_region_law (refine Own.cC rfl _ _ 151 rfl 304 i0 (.agg #[.bool false,.int .i64 0,.int .i64 0]) 3 24 underlying151 Hi.o.1 Hi.o.2.1 Hi.o.2.2.1 Hi.o.2.2.2 rfl (.slice ad 0 cc) 0 (aW []) hl [Own.row wb 153 [.slice ad 0 cc,.bool false],Own.row W2.heap.size 218 [.bool _,.int .i64 q2]] rfl hS.o W3.heap.size _ HW.o.has rfl rfl ?hy ?c1 ?c2 ?_;(case hy=>(intro u hu;simp only [List.mem_cons,List.not_mem_nil,or_false] at hu;rcases hu with rfl | rfl | rfl <;> rfl));(case c1=>(simp only [maxLen];omega));(case c2=>omega);intro ad' c' h' w1 hs' ht';have d0:=ht'.has.cell wb _ _ (mcm _ (List.mem_append_right _ mcs)) 0 _ rfl;have f0':=ht'.has.free wb _ _ (mcm _ (List.mem_append_right _ mcs)) 0;have d15:=ht'.has.cell W2.heap.size _ _ (mcm _ (List.mem_append_right _ (mcm _ mcs))) 0 _ rfl;have d16:=ht'.has.cell W2.heap.size _ _ (mcm _ (List.mem_append_right _ (mcm _ mcs))) 1 _ rfl)
  all_goals
   have tB:=hhh ((((HW.o).trans ht').forget (b:=[_])).perm (.refl _) List.perm_append_comm);have tC:=(tB.o).set 0 (.slice ad' 1 c') (by simp);have tD:=hhh ((tC.perm (.refl _) (List.Perm.cons _ (List.perm_append_comm (l₁:=[_]) (l₂:=h')))).drop (b:=_ :: h') (c:=[_]));have HS:=hhh hs';clear tC hs' ht';go_wp2;go_ret2;rw [hst.o,ifn (by simp)];refine ⟨rfl,_,⟨.slice ad' 1 c',h',rfl,HS.o⟩,tD.o⟩
 ·have hb:(((e:Nat):Int) != 0)=true:=by simpa using he
  have He:=hhh he;clear he;go_enter func244,ntmps244;go_wp2_with (fail);refine HC.o.mono ?_;rintro e W1 ⟨rfl,b1⟩;have t1:=Own.aA.aJ hW.o b1;have c1:=fun o=>(t1.aD o).has.cell wb _ _ mcs 1 _ rfl
  have c0:=fun o=>(t1.aD o).has.cell wb _ _ mcs 0 _ rfl
  have T2:=hhh (fun o o'=>(t1.aD o).aD o');clear t1;go_wp2_with (fail);refine (HT.o _).mono ?_;rintro e W2 ⟨rfl,b2⟩;have T3:=hhh (((T2.o _ _).trans (Own.aA.aJ (T2.o _ _).has b2)).aP W2.heap.size rfl 218 [.bool m2,.int .i64 q2]);have g0:=T3.o.has.cell W2.heap.size _ _ mcs 0 _ rfl;have g1:=T3.o.has.cell W2.heap.size _ _ mcs 1 _ rfl;clear b2 c0 c1;go_wp2_with (fail);refine (HB.o _).mono ?_;rintro e W3 ⟨rfl,b3⟩;have T4:=hhh ((T3.o.trans (Own.aA.aJ T3.o.has b3)).forget (b:=[_]));clear b3 g0 g1;go_wp2;go_ret2;rw [hst.o,ifp He.o];exact ⟨rfl,_,hI.o,T4.o⟩
end Pk
end Pip
end
section
open Go.RowKit
open Json (Part)
namespace Pip
namespace Pk
theorem sR (w:World) (a:Addr) (v:Value):(w.setCell a v).heap.size=w.heap.size:=by simp [World.setCell]
theorem qC {L : List Crt} {c : Crt} {wb n : Nat} {h : Own.Heap} {w : World} (hi0 : Is (Cw.mk (L ++ [c]) false) wb h) (hw : Own.Has w h) (hf : (Cw.mk (L ++ [c]) false).Fits n) (hn : n ≤ 100000) (p : Part) (hp : Fine p) (hc : p.isClose = false) (hgb : p.isBegin = false) :
  Calls prog 244 #[.pointer (some ⟨wb,0,none⟩),p.val] w fun e w'=>e = .returned (.tuple #[.string ⟨((Cw.mk (L ++ [c]) false).pack p).1.toArray⟩,.int .i64 (((Cw.mk (L ++ [c]) false).pack p).2.1:Int)]) /\
   ∃ h',Is ((Cw.mk (L ++ [c]) false).pack p).2.2 wb h' /\ Own.aA h h' w w':=by
 have hm0:=hp.may;have a5:=Json.eK p;have a6:=Json.eP p;have a3:=Json.jA p;obtain ⟨iw,hiw⟩:∃ iw,iw=p.isWord:=⟨_,rfl⟩;obtain ⟨xw,hxw⟩:∃ xw,xw=p.inWord:=⟨_,rfl⟩;rw [<- hiw,<- hxw] at a3;obtain ⟨o,e,ho⟩:∃ o e,packPlain p=(o,e):=⟨_,_,rfl⟩;have HT:=hhh (fun u=>dR p hp hgb hc u);rw [ho] at HT;have hst:=hhh (fun hg=>rO (Cw.mk (L ++ [c]) false) p hm0 rfl hc hgb hg);rw [ho] at hst;have hib:p.inBegin = .agg #[.bool false,.int .i64 0]:=by cases p <;> first | rfl | cases hgb
 rw [hgb,hib] at a6;have hbad:=hhh (yL (Cw.mk (L ++ [c]) false) p hm0 rfl hc);have hmay:=hhh (show (Cw.mk (L ++ [c]) false).may p=if c.full=true then 14 else if c.pairs=true /\ c.aK=false /\ iw=false then 8 else 0 by unfold Cw.may;simp [hiw]);obtain ⟨V,hV⟩:∃ V,V=p.val:=⟨_,rfl⟩;obtain ⟨pa,pb,pm,ps,pc,hpl⟩:=Json.cB p V hV w;rw [<- hV] at a3 a5 a6 HT |-;clear hV;rw [hm0] at hpl;have HC:=hhh hpl;clear hpl;have h5:p.inClose = .agg #[]:=rfl;rw [hc,h5] at a5;have hI:=hhh hi0;have hW:=hhh hw;obtain ⟨b2,m,spare,rfl,hsl,hm⟩:=hi0.last L c rfl;obtain ⟨N,hN⟩:∃ N,N=L.length:=⟨_,rfl⟩;have hN1:N < 100000:=by have:=hf.deep;simp at this;omega
 have hcp:c.parts <= 100000:=by have:=hf.parts c (by simp);omega
 rw [<- hN] at hI hW hm |-;simp only at hI hW |-;have HU:=hhh (fun u=>fZ c.pairs c.count c.parts (by omega) u);have HBt:=hhh (fun u=>bY c.pairs c.count c.parts u);have hne:¬ wb=b2:=fun e=>by
  have:=hw.once;rw [e] at this;simp [Own.blocks,Own.row] at this
 have hne':¬ b2=wb:=fun e=>hne e.symm
 have CF:=hhh (fun (u:World) (t:Own.aA [Own.row wb 153 [.slice (some ⟨b2,0,none⟩) (N + 1) (N + 1 + m),.bool false],Own.row b2 304 (aW L ++ ([.bool c.pairs,.int .i64 c.count,.int .i64 (c.parts:Int)] ++ spare))] [Own.row wb 153 [.slice (some ⟨b2,0,none⟩) (N + 1) (N + 1 + m),.bool false],Own.row b2 304 (aW L ++ ([.bool c.pairs,.int .i64 c.count,.int .i64 (c.parts:Int)] ++ spare))] w u)=>by
  have c0:=t.has.cell wb _ _ mcs 0 _ rfl;have c1:=t.has.cell wb _ _ mcs 1 _ rfl;have f0:=t.has.free wb _ _ mcs 0;have f1:=t.has.free wb _ _ mcs 1;have e0:=t.has.cell b2 _ _ (mcm _ mcs) (N * 3) (.bool c.pairs) (by rw [hN,<- aU,List.getElem?_append_right (by omega)];simp);have e1:=t.has.cell b2 _ _ (mcm _ mcs) (N * 3 + 1) (.int .i64 c.count) (by rw [hN,<- aU,List.getElem?_append_right (by omega)];simp);have e2:=t.has.cell b2 _ _ (mcm _ mcs) (N * 3 + 2) (.int .i64 (c.parts:Int)) (by rw [hN,<- aU,List.getElem?_append_right (by omega)];simp);have f2:=t.has.free b2 _ _ (mcm _ mcs) (N * 3 + 2)
  exact ai c0 (ai c1 (ai f0 (ai f1 (ai e0 (ai e1 (ai e2 f2)))))))
 have HF:=hhh (fun (A:Own.Heap) (u:World) (t:Own.aA [Own.row wb 153 [.slice (some ⟨b2,0,none⟩) (N + 1) (N + 1 + m),.bool false],Own.row b2 304 (aW L ++ ([.bool c.pairs,.int .i64 c.count,.int .i64 (c.parts:Int)] ++ spare))] (A ++ [Own.row wb 153 [.slice (some ⟨b2,0,none⟩) (N + 1) (N + 1 + m),.bool false],Own.row b2 304 (aW L ++ ([.bool c.pairs,.int .i64 c.count,.int .i64 (c.parts:Int)] ++ spare))]) w u)=>(show Own.aA [Own.row wb 153 [.slice (some ⟨b2,0,none⟩) (N + 1) (N + 1 + m),.bool false],Own.row b2 304 (aW L ++ ([.bool c.pairs,.int .i64 c.count,.int .i64 (c.parts:Int)] ++ spare))] (A ++ [Own.row wb 153 [.slice (some ⟨b2,0,none⟩) (N + 1) (N + 1 + m),.bool false],Own.row b2 304 (aW (L ++ [⟨c.pairs,c.count,c.parts + 1⟩]) ++ spare)]) w (u.setCell ⟨b2,N * 3 + 2,none⟩ (.int .i64 ((c.parts:Int) + 1))) by
  have t':=Own.aA.setAt (A ++ [Own.row wb 153 [.slice (some ⟨b2,0,none⟩) (N + 1) (N + 1 + m),.bool false]]) (C:=[]) (by rw [List.append_assoc];exact t) (N * 3 + 2) (.int .i64 ((c.parts:Int) + 1)) (by rw [hN];simp [aU]);have hset:(aW L ++ ([Value.bool c.pairs,.int .i64 c.count,.int .i64 (c.parts:Int)] ++ spare)).set (N * 3 + 2) (.int .i64 ((c.parts:Int) + 1))=aW (L ++ [⟨c.pairs,c.count,c.parts + 1⟩]) ++ spare:=by
   rw [hN,<- aU,List.set_append_right _ _ (by omega),dB];simp [aW]
  rw [hset,List.append_assoc] at t'
  exact t'))
 have hbu:=hhh (show (Cw.mk (L ++ [c]) false).aR=L ++ [⟨c.pairs,c.count,c.parts + 1⟩] by unfold Cw.aR;simp)
 have HS:=hhh (show Own.Slk 3 304 (N + 1) (aW (L ++ [⟨c.pairs,c.count,c.parts + 1⟩])) (.slice (some ⟨b2,0,none⟩) (N + 1) (N + 1 + m)) [Own.row b2 304 (aW (L ++ [⟨c.pairs,c.count,c.parts + 1⟩]) ++ spare)] from
  .row b2 m spare (by rw [aU];simp [hN]) hsl (by omega))
 have HN:=hhh hN;have hk1:((N:Int) + 1) - 1=(N:Int):=by omega
 have hkw:IntKind.i64.wrap ((c.parts:Int) + 1)=(c.parts:Int) + 1:=by rw [IntKind.wrap_i64];omega
 clear hN hw hi0 hf hm hsl hp hm0 hc h5 ho hxw hiw hib hgb;obtain ⟨y,q,k⟩:=c;simp only at *
 generalize (Crt.mk y q k).full=ft at hmay HU;generalize (Crt.mk y q k).aK=bt at hmay HBt;by_cases he:e=0
 ·subst he
  go_enter func244,ntmps244;go_wp2_with (fail);refine HC.o.mono ?_;rintro e W1 ⟨rfl,b1⟩;have T1:=hhh (Own.aA.aJ hW.o b1);have c1:=fun o=>(CF.o _ (T1.o.aD o)).2.1
  have c0:=fun o=>(CF.o _ (T1.o.aD o)).1
  have c0':=fun o o'=>(CF.o _ ((T1.o.aD o).aD o')).1
  have e0:=fun o o'=>(CF.o _ ((T1.o.aD o).aD o')).2.2.2.2.1
  have e1:=fun o o'=>(CF.o _ ((T1.o.aD o).aD o')).2.2.2.2.2.1
  have e2:=fun o o'=>(CF.o _ ((T1.o.aD o).aD o')).2.2.2.2.2.2.1
  have T3:=hhh (fun o o'=>((T1.o.aD o).aD o').aP (W1.heap.size + 1 + 1) (by rw [Json.size_alloc,Json.size_alloc]) 304 [.bool y,.int .i64 q,.int .i64 (k:Int)]);clear b1
  go_upto_if 75 with (fail)
  go_cut [8,11,12,13] (fun s8 _ _ _ wx=>(Cw.mk (L ++ [⟨y,q,k⟩]) false).may p=0 /\ s8 = .int .i64 (N:Int) /\ Own.aA [Own.row wb 153 [.slice (some ⟨b2,0,none⟩) (N + 1) (N + 1 + m),.bool false],Own.row b2 304 (aW L ++ ([.bool y,.int .i64 q,.int .i64 (k:Int)] ++ spare))] [Own.row wb 153 [.slice (some ⟨b2,0,none⟩) (N + 1) (N + 1 + m),.bool false],Own.row b2 304 (aW L ++ ([.bool y,.int .i64 q,.int .i64 (k:Int)] ++ spare))] w wx)
  case first =>
   go_wp2_with (fail);refine (HU.o _).mono ?_;rintro e W2 ⟨rfl,b3⟩;have t3:=(T3.o _ _).trans (Own.aA.aJ (T3.o _ _).has b3);have x0:=t3.has.cell _ _ _ mcs 0 _ rfl;have x1:=t3.has.cell _ _ _ mcs 1 _ rfl;have x2:=t3.has.cell _ _ _ mcs 2 _ rfl;clear c0 c1 c0' e0 e1 e2 b3
   cases ft
   ·cases y
    ·have hg:=hhh (show (Cw.mk (L ++ [⟨false,q,k⟩]) false).may p=0 by rw [hmay.o];rfl)
     go_wp2_with (fail)
     go_meet
     case rel=>exact ⟨hg.o,rfl,t3.forget (b:=[_])⟩
    ·go_wp2_with (fail)
     refine (HBt.o _).mono ?_;rintro e W3 ⟨rfl,b4⟩;have t4:=(t3.trans (Own.aA.aJ t3.has b4)).forget (b:=[_]);clear t3 x0 x1 x2 b4
     cases bt
     ·cases iw
      ·have Hbb:=hhh (ai (hbad.o (by rw [hmay.o];simp)) (show (Cw.mk (L ++ [⟨true,q,k⟩]) false).may p=8 by rw [hmay.o];simp))
       go_wp2_with (fail);go_ret2;rw [Hbb.o.1,Hbb.o.2];exact ⟨rfl,_,hI.o,t4⟩
      ·have hg:=hhh (show (Cw.mk (L ++ [⟨true,q,k⟩]) false).may p=0 by rw [hmay.o];simp)
       go_wp2_with (fail)
       go_meet
       case rel=>exact ⟨hg.o,rfl,t4⟩
     ·have hg:=hhh (show (Cw.mk (L ++ [⟨true,q,k⟩]) false).may p=0 by rw [hmay.o];simp)
      go_wp2_with (fail)
      go_meet
      case rel=>exact ⟨hg.o,rfl,t4⟩
   ·have Hbb:=hhh (ai (hbad.o (by rw [hmay.o];simp)) (show (Cw.mk (L ++ [⟨y,q,k⟩]) false).may p=14 by rw [hmay.o];simp))
    go_wp2_with (fail);go_ret2;rw [Hbb.o.1,Hbb.o.2];exact ⟨rfl,_,hI.o,t3.forget (b:=[_])⟩
  case rest =>
   obtain ⟨hmay0,rfl,t2⟩:=hcut;have HMay:=hhh hmay0;have T2:=hhh t2;clear hmay0 c0 c1 c0' e0 e1 e2 t2;go_wp2_with (fail);refine (HT.o _).mono ?_;rintro e W2 ⟨rfl,b2⟩;have t5:=hhh (fun o=>(T2.o.trans (Own.aA.aJ T2.o.has b2)).aD o);have c0:=fun o=>(CF.o _ (t5.o o)).1
   have g1:=fun o=>(CF.o _ (t5.o o)).2.1
   have g2:=fun o=>(CF.o _ (t5.o o)).2.2.2.1
   have g3:=fun o=>(CF.o _ (t5.o o)).2.2.2.2.2.2.1
   have g4:=fun o=>(CF.o _ (t5.o o)).2.2.2.2.2.2.2
   clear b2;go_wp2;go_ret2;rw [hst.o HMay.o,ifn (by simp)];have t6:=fun o=>(HF.o [] _ (t5.o o)).set 1 (.bool false) (by simp)
   refine ⟨rfl,_,?_,t6 _⟩;rw [hbu.o];exact ⟨.slice (some ⟨b2,0,none⟩) (N + 1) (N + 1 + m),[Own.row b2 304 (aW (L ++ [⟨y,q,k + 1⟩]) ++ spare)],by simp,by simp only [lla,List.length_singleton,<- HN.o];exact HS.o⟩
 ·have hb:(((e:Nat):Int) != 0)=true:=by simpa using he
  have He:=hhh he;clear he;go_enter func244,ntmps244;go_wp2_with (fail);refine HC.o.mono ?_;rintro e W1 ⟨rfl,b1⟩;have T1:=hhh (Own.aA.aJ hW.o b1);have c1:=fun o=>(CF.o _ (T1.o.aD o)).2.1
  have c0:=fun o=>(CF.o _ (T1.o.aD o)).1
  have c0':=fun o o'=>(CF.o _ ((T1.o.aD o).aD o')).1
  have e0:=fun o o'=>(CF.o _ ((T1.o.aD o).aD o')).2.2.2.2.1
  have e1:=fun o o'=>(CF.o _ ((T1.o.aD o).aD o')).2.2.2.2.2.1
  have e2:=fun o o'=>(CF.o _ ((T1.o.aD o).aD o')).2.2.2.2.2.2.1
  have T3:=hhh (fun o o'=>((T1.o.aD o).aD o').aP (W1.heap.size + 1 + 1) (by rw [Json.size_alloc,Json.size_alloc]) 304 [.bool y,.int .i64 q,.int .i64 (k:Int)]);clear b1
  go_upto_if 75 with (fail)
  go_cut [8,11,12,13] (fun s8 _ _ _ wx=>(Cw.mk (L ++ [⟨y,q,k⟩]) false).may p=0 /\ s8 = .int .i64 (N:Int) /\ Own.aA [Own.row wb 153 [.slice (some ⟨b2,0,none⟩) (N + 1) (N + 1 + m),.bool false],Own.row b2 304 (aW L ++ ([.bool y,.int .i64 q,.int .i64 (k:Int)] ++ spare))] [Own.row wb 153 [.slice (some ⟨b2,0,none⟩) (N + 1) (N + 1 + m),.bool false],Own.row b2 304 (aW L ++ ([.bool y,.int .i64 q,.int .i64 (k:Int)] ++ spare))] w wx)
  case first =>
   go_wp2_with (fail);refine (HU.o _).mono ?_;rintro e W2 ⟨rfl,b3⟩;have t3:=(T3.o _ _).trans (Own.aA.aJ (T3.o _ _).has b3);have x0:=t3.has.cell _ _ _ mcs 0 _ rfl;have x1:=t3.has.cell _ _ _ mcs 1 _ rfl;have x2:=t3.has.cell _ _ _ mcs 2 _ rfl;clear c0 c1 c0' e0 e1 e2 b3
   cases ft
   ·cases y
    ·have hg:=hhh (show (Cw.mk (L ++ [⟨false,q,k⟩]) false).may p=0 by rw [hmay.o];rfl)
     go_wp2_with (fail)
     go_meet
     case rel=>exact ⟨hg.o,rfl,t3.forget (b:=[_])⟩
    ·go_wp2_with (fail)
     refine (HBt.o _).mono ?_;rintro e W3 ⟨rfl,b4⟩;have t4:=(t3.trans (Own.aA.aJ t3.has b4)).forget (b:=[_]);clear t3 x0 x1 x2 b4
     cases bt
     ·cases iw
      ·have Hbb:=hhh (ai (hbad.o (by rw [hmay.o];simp)) (show (Cw.mk (L ++ [⟨true,q,k⟩]) false).may p=8 by rw [hmay.o];simp))
       go_wp2_with (fail);go_ret2;rw [Hbb.o.1,Hbb.o.2];exact ⟨rfl,_,hI.o,t4⟩
      ·have hg:=hhh (show (Cw.mk (L ++ [⟨true,q,k⟩]) false).may p=0 by rw [hmay.o];simp)
       go_wp2_with (fail)
       go_meet
       case rel=>exact ⟨hg.o,rfl,t4⟩
     ·have hg:=hhh (show (Cw.mk (L ++ [⟨true,q,k⟩]) false).may p=0 by rw [hmay.o];simp)
      go_wp2_with (fail)
      go_meet
      case rel=>exact ⟨hg.o,rfl,t4⟩
   ·have Hbb:=hhh (ai (hbad.o (by rw [hmay.o];simp)) (show (Cw.mk (L ++ [⟨y,q,k⟩]) false).may p=14 by rw [hmay.o];simp))
    go_wp2_with (fail);go_ret2;rw [Hbb.o.1,Hbb.o.2];exact ⟨rfl,_,hI.o,t3.forget (b:=[_])⟩
  case rest =>
   obtain ⟨hmay0,rfl,t2⟩:=hcut;have HMay:=hhh hmay0;have T2:=hhh t2;clear hmay0 c0 c1 c0' e0 e1 e2 t2;go_wp2_with (fail);refine (HT.o _).mono ?_;rintro e W2 ⟨rfl,b2⟩;have t5:=hhh (fun o=>(T2.o.trans (Own.aA.aJ T2.o.has b2)).aD o);clear b2;go_wp2;go_ret2;rw [hst.o HMay.o,ifp He.o];exact ⟨rfl,_,hI.o,t5.o _⟩
theorem pA {L : List Crt} {c : Crt} {wb n : Nat} {h : Own.Heap} {w : World} (hi0 : Is (Cw.mk (L ++ [c]) false) wb h) (hw : Own.Has w h) (hf : (Cw.mk (L ++ [c]) false).Fits n) (hn : n ≤ 100000) (m2 : Bool) (q2 : Int) (hp : Fine (.aG m2 q2)) :
  Calls prog 244 #[.pointer (some ⟨wb,0,none⟩),(Part.aG m2 q2).val] w fun e w'=>e = .returned (.tuple #[.string ⟨((Cw.mk (L ++ [c]) false).pack (.aG m2 q2)).1.toArray⟩,.int .i64 (((Cw.mk (L ++ [c]) false).pack (.aG m2 q2)).2.1:Int)]) /\
   ∃ h',Is ((Cw.mk (L ++ [c]) false).pack (.aG m2 q2)).2.2 wb h' /\ Own.aA h h' w w':=by
 have hm0:=hp.may;have hc:(Part.aG m2 q2).isClose=false:=rfl;have hq:=hp.count m2 q2 rfl;have a5:=Json.eK (.aG m2 q2);have a6:=Json.eP (.aG m2 q2);have a3:=Json.jA (.aG m2 q2);obtain ⟨iw,hiw⟩:∃ iw,iw=(Part.aG m2 q2).isWord:=⟨_,rfl⟩;obtain ⟨xw,hxw⟩:∃ xw,xw=(Part.aG m2 q2).inWord:=⟨_,rfl⟩;rw [<- hiw,<- hxw] at a3;obtain ⟨o,e,ho⟩:∃ o e,bS m2 q2=(o,e):=⟨_,_,rfl⟩;have HT:=hhh (fun u=>nW m2 q2 u);have HB:=hhh (fun u=>tI m2 q2 (by omega) u);rw [ho] at HB;have hst:=hhh (fun hg=>rY (Cw.mk (L ++ [c]) false) m2 q2 hm0 rfl hg);rw [ho] at hst;rw [show (Part.aG m2 q2).isBegin=true from rfl,show (Part.aG m2 q2).inBegin = .agg #[.bool m2,.int .i64 q2] from rfl] at a6;have hbad:=hhh (yL (Cw.mk (L ++ [c]) false) (.aG m2 q2) hm0 rfl hc);have hmay:=hhh (show (Cw.mk (L ++ [c]) false).may (.aG m2 q2)=if c.full=true then 14 else if c.pairs=true /\ c.aK=false /\ iw=false then 8 else 0 by unfold Cw.may;simp [hiw]);obtain ⟨V,hV⟩:∃ V,V=(Part.aG m2 q2).val:=⟨_,rfl⟩;obtain ⟨pa,pb,pm,ps,pc,hpl⟩:=Json.cB (.aG m2 q2) V hV w;rw [<- hV] at a3 a5 a6 HT |-;clear hV;rw [hm0] at hpl;have HC:=hhh hpl;clear hpl;have h5:(Part.aG m2 q2).inClose = .agg #[]:=rfl;rw [hc,h5] at a5;have hI:=hhh hi0;have hW:=hhh hw;obtain ⟨b2,m,spare,rfl,hsl,hm⟩:=hi0.last L c rfl;obtain ⟨N,hN⟩:∃ N,N=L.length:=⟨_,rfl⟩;have hN1:N < 100000:=by have:=hf.deep;simp at this;omega
 have hcp:c.parts <= 100000:=by have:=hf.parts c (by simp);omega
 rw [<- hN] at hI hW hm |-;simp only at hI hW |-;have HU:=hhh (fun u=>fZ c.pairs c.count c.parts (by omega) u);have HBt:=hhh (fun u=>bY c.pairs c.count c.parts u);have hne:¬ wb=b2:=fun e=>by
  have:=hw.once;rw [e] at this;simp [Own.blocks,Own.row] at this
 have hne':¬ b2=wb:=fun e=>hne e.symm
 have CF:=hhh (fun (u:World) (t:Own.aA [Own.row wb 153 [.slice (some ⟨b2,0,none⟩) (N + 1) (N + 1 + m),.bool false],Own.row b2 304 (aW L ++ ([.bool c.pairs,.int .i64 c.count,.int .i64 (c.parts:Int)] ++ spare))] [Own.row wb 153 [.slice (some ⟨b2,0,none⟩) (N + 1) (N + 1 + m),.bool false],Own.row b2 304 (aW L ++ ([.bool c.pairs,.int .i64 c.count,.int .i64 (c.parts:Int)] ++ spare))] w u)=>by
  have c0:=t.has.cell wb _ _ mcs 0 _ rfl;have c1:=t.has.cell wb _ _ mcs 1 _ rfl;have f0:=t.has.free wb _ _ mcs 0;have f1:=t.has.free wb _ _ mcs 1;have e0:=t.has.cell b2 _ _ (mcm _ mcs) (N * 3) (.bool c.pairs) (by rw [hN,<- aU,List.getElem?_append_right (by omega)];simp);have e1:=t.has.cell b2 _ _ (mcm _ mcs) (N * 3 + 1) (.int .i64 c.count) (by rw [hN,<- aU,List.getElem?_append_right (by omega)];simp);have e2:=t.has.cell b2 _ _ (mcm _ mcs) (N * 3 + 2) (.int .i64 (c.parts:Int)) (by rw [hN,<- aU,List.getElem?_append_right (by omega)];simp);have f2:=t.has.free b2 _ _ (mcm _ mcs) (N * 3 + 2)
  exact ai c0 (ai c1 (ai f0 (ai f1 (ai e0 (ai e1 (ai e2 f2)))))))
 have HF:=hhh (fun (A:Own.Heap) (u:World) (t:Own.aA [Own.row wb 153 [.slice (some ⟨b2,0,none⟩) (N + 1) (N + 1 + m),.bool false],Own.row b2 304 (aW L ++ ([.bool c.pairs,.int .i64 c.count,.int .i64 (c.parts:Int)] ++ spare))] (A ++ [Own.row wb 153 [.slice (some ⟨b2,0,none⟩) (N + 1) (N + 1 + m),.bool false],Own.row b2 304 (aW L ++ ([.bool c.pairs,.int .i64 c.count,.int .i64 (c.parts:Int)] ++ spare))]) w u)=>(show Own.aA [Own.row wb 153 [.slice (some ⟨b2,0,none⟩) (N + 1) (N + 1 + m),.bool false],Own.row b2 304 (aW L ++ ([.bool c.pairs,.int .i64 c.count,.int .i64 (c.parts:Int)] ++ spare))] (A ++ [Own.row wb 153 [.slice (some ⟨b2,0,none⟩) (N + 1) (N + 1 + m),.bool false],Own.row b2 304 (aW (L ++ [⟨c.pairs,c.count,c.parts + 1⟩]) ++ spare)]) w (u.setCell ⟨b2,N * 3 + 2,none⟩ (.int .i64 ((c.parts:Int) + 1))) by
  have t':=Own.aA.setAt (A ++ [Own.row wb 153 [.slice (some ⟨b2,0,none⟩) (N + 1) (N + 1 + m),.bool false]]) (C:=[]) (by rw [List.append_assoc];exact t) (N * 3 + 2) (.int .i64 ((c.parts:Int) + 1)) (by rw [hN];simp [aU]);have hset:(aW L ++ ([Value.bool c.pairs,.int .i64 c.count,.int .i64 (c.parts:Int)] ++ spare)).set (N * 3 + 2) (.int .i64 ((c.parts:Int) + 1))=aW (L ++ [⟨c.pairs,c.count,c.parts + 1⟩]) ++ spare:=by
   rw [hN,<- aU,List.set_append_right _ _ (by omega),dB];simp [aW]
  rw [hset,List.append_assoc] at t'
  exact t'))
 have hbu:=hhh (show (Cw.mk (L ++ [c]) false).aR=L ++ [⟨c.pairs,c.count,c.parts + 1⟩] by unfold Cw.aR;simp)
 have HS:=hhh (show Own.Slk 3 304 (N + 1) (aW (L ++ [⟨c.pairs,c.count,c.parts + 1⟩])) (.slice (some ⟨b2,0,none⟩) (N + 1) (N + 1 + m)) [Own.row b2 304 (aW (L ++ [⟨c.pairs,c.count,c.parts + 1⟩]) ++ spare)] from
  .row b2 m spare (by rw [aU];simp [hN]) hsl (by omega))
 have HN:=hhh hN;have hk1:((N:Int) + 1) - 1=(N:Int):=by omega
 have hkw:IntKind.i64.wrap ((c.parts:Int) + 1)=(c.parts:Int) + 1:=by rw [IntKind.wrap_i64];omega
 clear hN hw hi0 hf hm hsl hp hm0 hc h5 ho hxw hiw;obtain ⟨y,q,k⟩:=c;simp only at *
 generalize (Crt.mk y q k).full=ft at hmay HU;generalize (Crt.mk y q k).aK=bt at hmay HBt;by_cases he:e=0
 ·subst he
  go_enter func244,ntmps244;go_wp2_with (fail);refine HC.o.mono ?_;rintro e W1 ⟨rfl,b1⟩;have T1:=hhh (Own.aA.aJ hW.o b1);have c1:=fun o=>(CF.o _ (T1.o.aD o)).2.1
  have c0:=fun o=>(CF.o _ (T1.o.aD o)).1
  have c0':=fun o o'=>(CF.o _ ((T1.o.aD o).aD o')).1
  have e0:=fun o o'=>(CF.o _ ((T1.o.aD o).aD o')).2.2.2.2.1
  have e1:=fun o o'=>(CF.o _ ((T1.o.aD o).aD o')).2.2.2.2.2.1
  have e2:=fun o o'=>(CF.o _ ((T1.o.aD o).aD o')).2.2.2.2.2.2.1
  have T3:=hhh (fun o o'=>((T1.o.aD o).aD o').aP (W1.heap.size + 1 + 1) (by rw [Json.size_alloc,Json.size_alloc]) 304 [.bool y,.int .i64 q,.int .i64 (k:Int)]);clear b1
  go_upto_if 75 with (fail)
  go_cut [8,11,12,13] (fun s8 _ _ _ wx=>(Cw.mk (L ++ [⟨y,q,k⟩]) false).may (.aG m2 q2)=0 /\ s8 = .int .i64 (N:Int) /\ Own.aA [Own.row wb 153 [.slice (some ⟨b2,0,none⟩) (N + 1) (N + 1 + m),.bool false],Own.row b2 304 (aW L ++ ([.bool y,.int .i64 q,.int .i64 (k:Int)] ++ spare))] [Own.row wb 153 [.slice (some ⟨b2,0,none⟩) (N + 1) (N + 1 + m),.bool false],Own.row b2 304 (aW L ++ ([.bool y,.int .i64 q,.int .i64 (k:Int)] ++ spare))] w wx)
  case first =>
   go_wp2_with (fail);refine (HU.o _).mono ?_;rintro e W2 ⟨rfl,b3⟩;have t3:=(T3.o _ _).trans (Own.aA.aJ (T3.o _ _).has b3);have x0:=t3.has.cell _ _ _ mcs 0 _ rfl;have x1:=t3.has.cell _ _ _ mcs 1 _ rfl;have x2:=t3.has.cell _ _ _ mcs 2 _ rfl;clear c0 c1 c0' e0 e1 e2 b3
   cases ft
   ·cases y
    ·have hg:=hhh (show (Cw.mk (L ++ [⟨false,q,k⟩]) false).may (.aG m2 q2)=0 by rw [hmay.o];rfl)
     go_wp2_with (fail)
     go_meet
     case rel=>exact ⟨hg.o,rfl,t3.forget (b:=[_])⟩
    ·go_wp2_with (fail)
     refine (HBt.o _).mono ?_;rintro e W3 ⟨rfl,b4⟩;have t4:=(t3.trans (Own.aA.aJ t3.has b4)).forget (b:=[_]);clear t3 x0 x1 x2 b4
     cases bt
     ·cases iw
      ·have Hbb:=hhh (ai (hbad.o (by rw [hmay.o];simp)) (show (Cw.mk (L ++ [⟨true,q,k⟩]) false).may (.aG m2 q2)=8 by rw [hmay.o];simp))
       go_wp2_with (fail);go_ret2;rw [Hbb.o.1,Hbb.o.2];exact ⟨rfl,_,hI.o,t4⟩
      ·have hg:=hhh (show (Cw.mk (L ++ [⟨true,q,k⟩]) false).may (.aG m2 q2)=0 by rw [hmay.o];simp)
       go_wp2_with (fail)
       go_meet
       case rel=>exact ⟨hg.o,rfl,t4⟩
     ·have hg:=hhh (show (Cw.mk (L ++ [⟨true,q,k⟩]) false).may (.aG m2 q2)=0 by rw [hmay.o];simp)
      go_wp2_with (fail)
      go_meet
      case rel=>exact ⟨hg.o,rfl,t4⟩
   ·have Hbb:=hhh (ai (hbad.o (by rw [hmay.o];simp)) (show (Cw.mk (L ++ [⟨y,q,k⟩]) false).may (.aG m2 q2)=14 by rw [hmay.o];simp))
    go_wp2_with (fail);go_ret2;rw [Hbb.o.1,Hbb.o.2];exact ⟨rfl,_,hI.o,t3.forget (b:=[_])⟩
  case rest =>
   obtain ⟨hmay0,rfl,t2⟩:=hcut;have HMay:=hhh hmay0;have T2:=hhh t2;clear hmay0 c0 c1 c0' e0 e1 e2 t2;go_wp2_with (fail);refine (HT.o _).mono ?_;rintro e W2 ⟨rfl,b2⟩;have T3:=hhh ((T2.o.trans (Own.aA.aJ T2.o.has b2)).aP W2.heap.size rfl 218 [.bool m2,.int .i64 q2]);have g0:=T3.o.has.cell W2.heap.size _ _ mcs 0 _ rfl;have g1:=T3.o.has.cell W2.heap.size _ _ mcs 1 _ rfl;clear b2;go_wp2_with (fail);refine (HB.o _).mono ?_;rintro e W3 ⟨rfl,b3⟩;have T4:=hhh (T3.o.trans (Own.aA.aJ T3.o.has b3));clear b3 g0 g1;have c0:=T4.o.has.cell wb _ _ (mcm _ mcs) 0 _ rfl;have T4':=hhh (T4.o.forget (b:=[_]));have g3:=(CF.o _ T4'.out).2.2.2.2.2.2.1;have g4:=(CF.o _ T4'.out).2.2.2.2.2.2.2;have T5:=hhh (HF.o [_] _ T4.o);have T6:=hhh (fun o=>T5.o.aD o);have s0:=T5.o.has.cell W2.heap.size _ _ mcs 0 _ rfl;have s1:=T5.o.has.cell W2.heap.size _ _ mcs 1 _ rfl;have s2:=T5.o.has.cell wb _ _ (mcm _ mcs) 0 _ rfl;have s0':=fun o=>(T6.o o).has.cell W2.heap.size _ _ mcs 0 _ rfl
   have s1':=fun o=>(T6.o o).has.cell W2.heap.size _ _ mcs 1 _ rfl
   have s2':=fun o=>(T6.o o).has.cell wb _ _ (mcm _ mcs) 0 _ rfl
   have hne2:¬ wb=W2.heap.size:=fun e=>by
    have:=T4.o.has.once;rw [e] at this;simp [Own.blocks,Own.row] at this
   have hne2':¬ W2.heap.size=wb:=fun e=>hne2 e.symm
   have hA1 : Own.aA [Own.row wb 153 [.slice (some ⟨b2, 0, none⟩) (N + 1) (N + 1 + m), .bool false], Own.row b2 304 (aW L ++ ([.bool y, .int .i64 q, .int .i64 (k : Int)] ++ spare))] (Own.row W3.heap.size 304 [.bool m2, .int .i64 q2, .int .i64 0] :: Own.row W2.heap.size 218 [.bool m2, .int .i64 q2] :: [Own.row wb 153 [.slice (some ⟨b2, 0, none⟩) (N + 1) (N + 1 + m), .bool false], Own.row b2 304 (aW (L ++ [⟨y, q, k + 1⟩]) ++ spare)]) w
     (((W3.setCell ⟨b2,N * 3 + 2,none⟩ (.int .i64 ((k:Int) + 1))).alloc (.cells #[.bool m2,.int .i64 q2,.int .i64 0] 304)).drew):=Own.aA.drew (Own.aA.bC T5.o W3.heap.size (by rw [sR]) (.cells #[.bool m2,.int .i64 q2,.int .i64 0] 304))
   have hA2 : Own.aA [Own.row wb 153 [.slice (some ⟨b2, 0, none⟩) (N + 1) (N + 1 + m), .bool false], Own.row b2 304 (aW L ++ ([.bool y, .int .i64 q, .int .i64 (k : Int)] ++ spare))] (Own.row W3.heap.size 304 [.bool m2, .int .i64 q2, .int .i64 0] :: ([Own.row b2 304 (aW (L ++ [⟨y, q, k + 1⟩]) ++ spare)] ++ [Own.row wb 153 [.slice (some ⟨b2, 0, none⟩) (N + 1) (N + 1 + m), .bool false], Own.row W2.heap.size 218 [.bool m2, .int .i64 q2]])) w
     (((W3.setCell ⟨b2,N * 3 + 2,none⟩ (.int .i64 ((k:Int) + 1))).alloc (.cells #[.bool m2,.int .i64 q2,.int .i64 0] 304)).drew):=hA1.perm (.refl _) (Own.aE _ _ fun x=>by simp only [List.count_append,List.count_cons,List.count_nil];omega)
   have HW:=hhh hA2;obtain ⟨i0,hi,hz0,hz1,hz2⟩:=info_parts (P:=prog) (e:=304) (z:=.agg #[.bool false,.int .i64 0,.int .i64 0]) (size:=3) (bytes:=24) infoP;have Hi:=hhh (ai hi (ai hz0 (ai hz1 hz2)));clear hA1 hA2 hi hz0 hz1 hz2;go_wp2_with (fail);go_region_law (refine Own.cC rfl _ _ 151 rfl 304 i0 (.agg #[.bool false,.int .i64 0,.int .i64 0]) 3 24 underlying151 Hi.o.1 Hi.o.2.1 Hi.o.2.2.1 Hi.o.2.2.2 rfl (.slice (some ⟨b2,0,none⟩) (N + 1) (N + 1 + m)) (N + 1) (aW (L ++ [⟨y,q,k + 1⟩])) [Own.row b2 304 (aW (L ++ [⟨y,q,k + 1⟩]) ++ spare)] [Own.row wb 153 [.slice (some ⟨b2,0,none⟩) (N + 1) (N + 1 + m),.bool false],Own.row W2.heap.size 218 [.bool _,.int .i64 q2]] rfl HS.o W3.heap.size _ HW.o.has rfl rfl ?hy ?c1 ?c2 ?_;(case hy=>(intro u hu;simp only [List.mem_cons,List.not_mem_nil,or_false] at hu;rcases hu with rfl | rfl | rfl <;> rfl));(case c1=>(simp only [maxLen];omega));(case c2=>omega);intro ad' c' h' w1 hs' ht';have d0:=ht'.has.cell wb _ _ (mcm _ (List.mem_append_right _ mcs)) 0 _ rfl;have f0':=ht'.has.free wb _ _ (mcm _ (List.mem_append_right _ mcs)) 0;have d15:=ht'.has.cell W2.heap.size _ _ (mcm _ (List.mem_append_right _ (mcm _ mcs))) 0 _ rfl;have d16:=ht'.has.cell W2.heap.size _ _ (mcm _ (List.mem_append_right _ (mcm _ mcs))) 1 _ rfl)
   all_goals
    have tB:=hhh ((((HW.o).trans ht').forget (b:=[_])).perm (.refl _) List.perm_append_comm);have tC:=(tB.o).set 0 (.slice ad' (N + 1 + 1) c') (by simp);have tD:=hhh ((tC.perm (.refl _) (List.Perm.cons _ (List.perm_append_comm (l₁:=[_]) (l₂:=h')))).drop (b:=_ :: h') (c:=[_]));have HS2:=hhh hs';clear tC hs' ht';go_wp2;go_ret2;rw [hst.o HMay.o,ifn (by simp)];refine ⟨rfl,_,⟨.slice ad' (N + 1 + 1) c',h',rfl,?_⟩,tD.o⟩;rw [hbu.o];simp only [lla,List.length_singleton,<- HN.o];rw [dB (L ++ [_]) [_]];exact HS2.o
 ·have hb:(((e:Nat):Int) != 0)=true:=by simpa using he
  have He:=hhh he;clear he;go_enter func244,ntmps244;go_wp2_with (fail);refine HC.o.mono ?_;rintro e W1 ⟨rfl,b1⟩;have T1:=hhh (Own.aA.aJ hW.o b1);have c1:=fun o=>(CF.o _ (T1.o.aD o)).2.1
  have c0:=fun o=>(CF.o _ (T1.o.aD o)).1
  have c0':=fun o o'=>(CF.o _ ((T1.o.aD o).aD o')).1
  have e0:=fun o o'=>(CF.o _ ((T1.o.aD o).aD o')).2.2.2.2.1
  have e1:=fun o o'=>(CF.o _ ((T1.o.aD o).aD o')).2.2.2.2.2.1
  have e2:=fun o o'=>(CF.o _ ((T1.o.aD o).aD o')).2.2.2.2.2.2.1
  have T3:=hhh (fun o o'=>((T1.o.aD o).aD o').aP (W1.heap.size + 1 + 1) (by rw [Json.size_alloc,Json.size_alloc]) 304 [.bool y,.int .i64 q,.int .i64 (k:Int)]);clear b1
  go_upto_if 75 with (fail)
  go_cut [8,11,12,13] (fun s8 _ _ _ wx=>(Cw.mk (L ++ [⟨y,q,k⟩]) false).may (.aG m2 q2)=0 /\ s8 = .int .i64 (N:Int) /\ Own.aA [Own.row wb 153 [.slice (some ⟨b2,0,none⟩) (N + 1) (N + 1 + m),.bool false],Own.row b2 304 (aW L ++ ([.bool y,.int .i64 q,.int .i64 (k:Int)] ++ spare))] [Own.row wb 153 [.slice (some ⟨b2,0,none⟩) (N + 1) (N + 1 + m),.bool false],Own.row b2 304 (aW L ++ ([.bool y,.int .i64 q,.int .i64 (k:Int)] ++ spare))] w wx)
  case first =>
   go_wp2_with (fail);refine (HU.o _).mono ?_;rintro e W2 ⟨rfl,b3⟩;have t3:=(T3.o _ _).trans (Own.aA.aJ (T3.o _ _).has b3);have x0:=t3.has.cell _ _ _ mcs 0 _ rfl;have x1:=t3.has.cell _ _ _ mcs 1 _ rfl;have x2:=t3.has.cell _ _ _ mcs 2 _ rfl;clear c0 c1 c0' e0 e1 e2 b3
   cases ft
   ·cases y
    ·have hg:=hhh (show (Cw.mk (L ++ [⟨false,q,k⟩]) false).may (.aG m2 q2)=0 by rw [hmay.o];rfl)
     go_wp2_with (fail)
     go_meet
     case rel=>exact ⟨hg.o,rfl,t3.forget (b:=[_])⟩
    ·go_wp2_with (fail)
     refine (HBt.o _).mono ?_;rintro e W3 ⟨rfl,b4⟩;have t4:=(t3.trans (Own.aA.aJ t3.has b4)).forget (b:=[_]);clear t3 x0 x1 x2 b4
     cases bt
     ·cases iw
      ·have Hbb:=hhh (ai (hbad.o (by rw [hmay.o];simp)) (show (Cw.mk (L ++ [⟨true,q,k⟩]) false).may (.aG m2 q2)=8 by rw [hmay.o];simp))
       go_wp2_with (fail);go_ret2;rw [Hbb.o.1,Hbb.o.2];exact ⟨rfl,_,hI.o,t4⟩
      ·have hg:=hhh (show (Cw.mk (L ++ [⟨true,q,k⟩]) false).may (.aG m2 q2)=0 by rw [hmay.o];simp)
       go_wp2_with (fail)
       go_meet
       case rel=>exact ⟨hg.o,rfl,t4⟩
     ·have hg:=hhh (show (Cw.mk (L ++ [⟨true,q,k⟩]) false).may (.aG m2 q2)=0 by rw [hmay.o];simp)
      go_wp2_with (fail)
      go_meet
      case rel=>exact ⟨hg.o,rfl,t4⟩
   ·have Hbb:=hhh (ai (hbad.o (by rw [hmay.o];simp)) (show (Cw.mk (L ++ [⟨y,q,k⟩]) false).may (.aG m2 q2)=14 by rw [hmay.o];simp))
    go_wp2_with (fail);go_ret2;rw [Hbb.o.1,Hbb.o.2];exact ⟨rfl,_,hI.o,t3.forget (b:=[_])⟩
  case rest =>
   obtain ⟨hmay0,rfl,t2⟩:=hcut;have HMay:=hhh hmay0;have T2:=hhh t2;clear hmay0 c0 c1 c0' e0 e1 e2 t2;go_wp2_with (fail);refine (HT.o _).mono ?_;rintro e W2 ⟨rfl,b2⟩;have T3:=hhh ((T2.o.trans (Own.aA.aJ T2.o.has b2)).aP W2.heap.size rfl 218 [.bool m2,.int .i64 q2]);have g0:=T3.o.has.cell W2.heap.size _ _ mcs 0 _ rfl;have g1:=T3.o.has.cell W2.heap.size _ _ mcs 1 _ rfl;clear b2;go_wp2_with (fail);refine (HB.o _).mono ?_;rintro e W3 ⟨rfl,b3⟩;have T4:=hhh (T3.o.trans (Own.aA.aJ T3.o.has b3));clear b3 g0 g1;have T5:=hhh (T4.o.forget (b:=[_]));go_wp2;go_ret2;rw [hst.o HMay.o,ifp He.o];exact ⟨rfl,_,hI.o,T5.o⟩
theorem dN {W : Cw} {wb n : Nat} {h : Own.Heap} {w : World} (hi : Is W wb h) (hw : Own.Has w h) (hf : W.Fits n) (hn : n ≤ 100000) (p : Part) (hp : Fine p) :
  Calls prog 244 #[.pointer (some ⟨wb,0,none⟩),p.val] w fun e w'=>e = .returned (.tuple #[.string ⟨(W.pack p).1.toArray⟩,.int .i64 ((W.pack p).2.1:Int)]) /\
   ∃ h',Is (W.pack p).2.2 wb h' /\ Own.aA h h' w w':=by
 by_cases hd:W.done=true
 ·have hE:W.pack p=([],14,W):=by unfold Cw.pack;rw [ifp (.inr hd)]
  rw [hE];refine (step_end hi hw p (.inr hd)).mono ?_;rintro e w' ⟨rfl,t⟩;exact ⟨rfl,h,hi,t⟩
 ·have hd':W.done=false:=by simpa using hd
  by_cases hc:p.isClose=true
  ·obtain rfl:p = .close:=by cases p <;> first | rfl | cases hc
   have hE:W.pack .close=W.dF:=by unfold Cw.pack;rw [ifn (by simp [hd',Part.may])]
   rw [hE];exact gW hi hw hf hn hd'
  ·have hc':p.isClose=false:=by simpa using hc
   obtain ⟨l,d⟩:=W;simp only at hd';subst hd';rcases List.eq_nil_or_concat l with rfl | ⟨L,c,rfl⟩
   ·by_cases hg:p.isBegin=true
    ·cases p with
     | aG m q=>exact rE hi hw m q hp
     | _=>cases hg
    ·exact rH hi hw p hp hc' (by simpa using hg)
   ·rw [List.concat_eq_append] at *
    by_cases hg:p.isBegin=true
    ·cases p with
     | aG m q=>exact pA hi hw hf hn m q hp
     | _=>cases hg
    ·exact qC hi hw hf hn p hp hc' (by simpa using hg)
end Pk
end Pip
end
end Go.Proofs.YtcjflgmcjfcodaaGreat
