/- Texts of the walk, joined. -/
import Derived.Test.YtfheacchdfdeiaaGreatM01
import Derived.Test.YtfheacchdfdeiaaGreatM13
import Derived.BigCall
import Derived.BigGuard
import Derived.BigRegion
import Derived.CellFam
import Derived.Deep.QuietTactic
import Derived.Deep.RegionWith
import Derived.Laws.BytesArg
import Derived.Lib.Hide
import Derived.Lib.ItoaMem
import Derived.Lib.ItoaWalk
import Derived.Lib.Walk
import Derived.OpenShut
import Derived.RegionTactic
import Derived.Shelf.LaysM
import Derived.Shelf.RegionOpenPlain
import Derived.Sort.Grow
import Derived.Test.YtfheacchdfdeiaaGreatChecked
import Derived.WalkKit
import Derived.WalkLawsBesides
import Derived.WalkSpells
set_option maxRecDepth 100000
set_option maxHeartbeats 8000000
namespace Go.Proofs.YtfheacchdfdeiaaGreat
section
namespace Conv
end Conv
end
section
open Go.Shelf Go.RowKit Go.Sort Go.Lib
namespace Fmt
def cC (k v:Nat) (d:Array UInt8):Array UInt8:=(d.setIfInBounds (k + 1) (sm (v % 100 * 2 + 1))).setIfInBounds k (sm (v % 100 * 2))
theorem cO (k v:Nat) (d:Array UInt8):(cC k v d).size=d.size:=by simp [cC]
def tl (nd x:Nat) (d:Array UInt8):Array UInt8 :=
 if nd=1 then (d).setIfInBounds 0 (UInt8.ofNat (48 + x))
 else if nd=2 then (cC 0 (x) d)
 else if nd=3 then ((cC 1 (x) d)).setIfInBounds 0 (UInt8.ofNat (48 + x / 100))
 else if nd=4 then (cC 0 (x / 100) (cC 2 (x) d))
 else if nd=5 then ((cC 1 (x / 100) (cC 3 (x) d))).setIfInBounds 0 (UInt8.ofNat (48 + x / 100 / 100))
 else if nd=6 then (cC 0 (x / 100 / 100) (cC 2 (x / 100) (cC 4 (x) d)))
 else if nd=7 then ((cC 1 (x / 100 / 100) (cC 3 (x / 100) (cC 5 (x) d)))).setIfInBounds 0 (UInt8.ofNat (48 + x / 100 / 100 / 100))
 else d
theorem aJk (x:Nat) (d:Array UInt8):tl 2 x d=(cC 0 (x) d):=by
 unfold tl;rw [if_neg (by decide),if_pos rfl]
theorem aJq (x:Nat) (d:Array UInt8):tl 3 x d=((cC 1 (x) d)).setIfInBounds 0 (UInt8.ofNat (48 + x / 100)):=by
 unfold tl;rw [if_neg (by decide),if_neg (by decide),if_pos rfl]
theorem aJl (x:Nat) (d:Array UInt8):tl 4 x d=(cC 0 (x / 100) (cC 2 (x) d)):=by
 unfold tl;rw [if_neg (by decide),if_neg (by decide),if_neg (by decide),if_pos rfl]
theorem aJd (x:Nat) (d:Array UInt8):tl 5 x d=((cC 1 (x / 100) (cC 3 (x) d))).setIfInBounds 0 (UInt8.ofNat (48 + x / 100 / 100)):=by
 unfold tl;rw [if_neg (by decide),if_neg (by decide),if_neg (by decide),if_neg (by decide),if_pos rfl]
theorem aJs (x:Nat) (d:Array UInt8):tl 6 x d=(cC 0 (x / 100 / 100) (cC 2 (x / 100) (cC 4 (x) d))):=by
 unfold tl;rw [if_neg (by decide),if_neg (by decide),if_neg (by decide),if_neg (by decide),if_neg (by decide),if_pos rfl]
theorem aJh (x:Nat) (d:Array UInt8):tl 7 x d=((cC 1 (x / 100 / 100) (cC 3 (x / 100) (cC 5 (x) d)))).setIfInBounds 0 (UInt8.ofNat (48 + x / 100 / 100 / 100)):=by
 unfold tl;rw [if_neg (by decide),if_neg (by decide),if_neg (by decide),if_neg (by decide),if_neg (by decide),if_neg (by decide),if_pos rfl]
def fin (nd v:Nat) (d:Array UInt8):Array UInt8 :=
 if 8 <= nd then fin (nd - 8) (v / 100000000) (cC (nd - 8) (v / 100 / 100 / 100) (cC (nd - 6) (v / 100 / 100) (cC (nd - 4) (v / 100) (cC (nd - 2) v d)))) else tl nd (v % 4294967296) d
termination_by nd
theorem aD5 (m v:Nat) (d:Array UInt8):fin (m + 8) v d=fin m (v / 100000000) (cC m (v / 100 / 100 / 100) (cC (m + 2) (v / 100 / 100) (cC (m + 4) (v / 100) (cC (m + 6) v d)))):=by
 rw [fin,if_pos (by omega)];rfl
theorem aF2 (nd v:Nat) (h:nd < 8) (d:Array UInt8):fin nd v d=tl nd (v % 4294967296) d:=by rw [fin,if_neg (by omega)]
theorem aGg (nd x:Nat) (d:Array UInt8):(tl nd x d).size=d.size:=by
 unfold tl
 repeat' split
 all_goals simp [cO]
theorem wR (nd v:Nat) (d:Array UInt8):(fin nd v d).size=d.size:=by
 induction nd using Nat.strongRecOn generalizing v d with
 | _ nd ih =>
  rw [fin];split
  ·rw [ih _ (by omega)];simp only [cO]
  ·exact aGg _ _ _
structure At (d:Array UInt8) (u nd v:Nat) (dk:Array UInt8):Prop where
 size:dk.size=d.size
 le:nd <= d.size
 low:v < 18446744073709551616
 same:fin nd v dk=fin d.size u d
theorem any (blk off cap : Nat) (u : Nat) (d : Array UInt8) (w : World) (hH : Holds (fun (b : UInt8) => Value.int .u8 (b.toNat : Int)) w blk off d) (hu64 : u < 18446744073709551616) (hsz : d.size < 1000) :
  Calls Tryz.prog 245 #[.slice (some ⟨blk,off,none⟩) d.size cap,.int .u64 u] w fun e w'=>e = .returned (.tuple #[]) /\ ∃ n:Nat,w'=(putRow (fun (b:UInt8)=>Value.int .u8 (b.toNat:Int)) w blk off (fin d.size u d)).drewN n:=by
 go_enter Tryz.func245,Tryz.ntmps245
 go_name_bytes SM hSM
 have eSM:SM=Lib.smalls:=by rw [<- hSM];decide +kernel
 subst eSM;clear hSM;go_wp2;go_loopw [1,4] (fun vu vn wr=>∃ (nd v n:Nat) (dk:Array UInt8),vu = .int .u64 v /\ vn = .int .i64 nd /\ wr=(putRow (fun (b:UInt8)=>Value.int .u8 (b.toNat:Int)) w blk off dk).drewN n /\ Hid (At d u nd v dk)) (fun _ vn _=>(RowKit.intOf vn).toNat)
 case atStart=>exact ⟨d.size,u,0,d,rfl,rfl,(putRow_self _ _ _ _ _ hH).symm,⟨rfl,Nat.le_refl _,hu64,rfl⟩⟩
 case round =>
  obtain ⟨nd,v,n,e0,rfl,rfl,wV0,I0⟩:=hrel
  rename World=>V0
  have kH:=hhh hH;clear hH;have hlow:=I0.out.low;have hle:=I0.out.le;have se0:=I0.out.size;have hh0:Holds (fun (b:UInt8)=>Value.int .u8 (b.toNat:Int)) V0 blk off e0:=by rw [wV0];exact holds_putRow _ w blk off d e0 kH.o se0
  obtain ⟨F0,hF0⟩:∃ F:Nat -> Int,∀ t,F t=(e0[t]!.toNat:Int):=⟨_,fun _=>rfl⟩;have cc0:∀ t,t < d.size -> V0.cell? ⟨blk,off + t,none⟩=some (.int .u8 (F0 t)):=fun t ht=>by rw [hF0];exact (hh0 t (by omega)).1
  have cf0:∀ t,t < d.size -> V0.frozen? ⟨blk,off + t,none⟩=false:=fun t ht=>(hh0 t (by omega)).2
  have kV0:=hhh wV0;clear wV0 hF0 hh0;by_cases h8:8 <= nd
  ·obtain ⟨m,rfl⟩:∃ m,nd=m + 8:=⟨nd - 8,by omega⟩
   go_wp2;have hvl0:v % 100 < 100:=Nat.mod_lt _ (by decide)
   go_name_slot 9 y0 hy0
   have hye0:y0=((v % 100 * 2:Nat):Int):=by omega
   have ja0:∀ w,(Instr.index 9 (.string Lib.smalls) (.int .u32 (y0 + 1))).run Tryz.prog w = .ok (.int .u8 ((sm (v % 100 * 2 + 1)).toNat:Int)) w:=idx_smalls 9 Tryz.underlying9 .u32 _ _ (by omega) (by omega);have jb0:∀ w,(Instr.index 9 (.string Lib.smalls) (.int .u32 y0)).run Tryz.prog w = .ok (.int .u8 ((sm (v % 100 * 2)).toNat:Int)) w:=idx_smalls 9 Tryz.underlying9 .u32 _ _ (by omega) (by omega);have ylo0:0 <= y0:=by omega
   have yhi0:y0 <= 198:=by omega
   clear hy0 hye0 hvl0;go_region;go_wp2
   go_name_world V1 eV1
   have wV1:V1=(putRow (fun (b:UInt8)=>Value.int .u8 (b.toNat:Int)) w blk off (cC (m + 6) (v) e0)).drewN (n + 0 + 1):=by rw [<- eV1,kV0.o];exact store2_world w blk off e0 (n + 0) (m + 6 + 1) (m + 6) _ _ (by omega) (by omega)
   obtain ⟨e1,he1⟩:∃ e,e=cC (m + 6) (v) e0:=⟨_,rfl⟩;have se1:e1.size=d.size:=by rw [he1,cO];exact se0
   rw [<- he1] at wV1;have kE1:=hhh he1;clear eV1 cc0 cf0 kV0 ja0 jb0 he1 se0;have hh1:Holds (fun (b:UInt8)=>Value.int .u8 (b.toNat:Int)) V1 blk off e1:=by rw [wV1];exact holds_putRow _ w blk off d e1 kH.o se1
   obtain ⟨F1,hF1⟩:∃ F:Nat -> Int,∀ t,F t=(e1[t]!.toNat:Int):=⟨_,fun _=>rfl⟩;have cc1:∀ t,t < d.size -> V1.cell? ⟨blk,off + t,none⟩=some (.int .u8 (F1 t)):=fun t ht=>by rw [hF1];exact (hh1 t (by omega)).1
   have cf1:∀ t,t < d.size -> V1.frozen? ⟨blk,off + t,none⟩=false:=fun t ht=>(hh1 t (by omega)).2
   have kV1:=hhh wV1;clear wV1 hF1 hh1;have hvl1:v / 100 % 100 < 100:=Nat.mod_lt _ (by decide)
   go_name_slot 8 y1 hy1
   have hye1:y1=((v / 100 % 100 * 2:Nat):Int):=by omega
   have ja1:∀ w,(Instr.index 9 (.string Lib.smalls) (.int .u32 (y1 + 1))).run Tryz.prog w = .ok (.int .u8 ((sm (v / 100 % 100 * 2 + 1)).toNat:Int)) w:=idx_smalls 9 Tryz.underlying9 .u32 _ _ (by omega) (by omega);have jb1:∀ w,(Instr.index 9 (.string Lib.smalls) (.int .u32 y1)).run Tryz.prog w = .ok (.int .u8 ((sm (v / 100 % 100 * 2)).toNat:Int)) w:=idx_smalls 9 Tryz.underlying9 .u32 _ _ (by omega) (by omega);have ylo1:0 <= y1:=by omega
   have yhi1:y1 <= 198:=by omega
   clear hy1 hye1 hvl1;go_region;go_wp2
   go_name_world V2 eV2
   have wV2:V2=(putRow (fun (b:UInt8)=>Value.int .u8 (b.toNat:Int)) w blk off (cC (m + 4) (v / 100) e1)).drewN (n + 1 + 1):=by rw [<- eV2,kV1.o];exact store2_world w blk off e1 (n + 1) (m + 4 + 1) (m + 4) _ _ (by omega) (by omega)
   obtain ⟨e2,he2⟩:∃ e,e=cC (m + 4) (v / 100) e1:=⟨_,rfl⟩;have se2:e2.size=d.size:=by rw [he2,cO];exact se1
   rw [<- he2] at wV2;have kE2:=hhh he2;clear eV2 cc1 cf1 kV1 ja1 jb1 he2 se1;have hh2:Holds (fun (b:UInt8)=>Value.int .u8 (b.toNat:Int)) V2 blk off e2:=by rw [wV2];exact holds_putRow _ w blk off d e2 kH.o se2
   obtain ⟨F2,hF2⟩:∃ F:Nat -> Int,∀ t,F t=(e2[t]!.toNat:Int):=⟨_,fun _=>rfl⟩;have cc2:∀ t,t < d.size -> V2.cell? ⟨blk,off + t,none⟩=some (.int .u8 (F2 t)):=fun t ht=>by rw [hF2];exact (hh2 t (by omega)).1
   have cf2:∀ t,t < d.size -> V2.frozen? ⟨blk,off + t,none⟩=false:=fun t ht=>(hh2 t (by omega)).2
   have kV2:=hhh wV2;clear wV2 hF2 hh2;have hvl2:v / 100 / 100 % 100 < 100:=Nat.mod_lt _ (by decide)
   go_name_slot 11 y2 hy2
   have hye2:y2=((v / 100 / 100 % 100 * 2:Nat):Int):=by omega
   have ja2:∀ w,(Instr.index 9 (.string Lib.smalls) (.int .u32 (y2 + 1))).run Tryz.prog w = .ok (.int .u8 ((sm (v / 100 / 100 % 100 * 2 + 1)).toNat:Int)) w:=idx_smalls 9 Tryz.underlying9 .u32 _ _ (by omega) (by omega);have jb2:∀ w,(Instr.index 9 (.string Lib.smalls) (.int .u32 y2)).run Tryz.prog w = .ok (.int .u8 ((sm (v / 100 / 100 % 100 * 2)).toNat:Int)) w:=idx_smalls 9 Tryz.underlying9 .u32 _ _ (by omega) (by omega);have ylo2:0 <= y2:=by omega
   have yhi2:y2 <= 198:=by omega
   clear hy2 hye2 hvl2;go_region;go_wp2
   go_name_world V3 eV3
   have wV3:V3=(putRow (fun (b:UInt8)=>Value.int .u8 (b.toNat:Int)) w blk off (cC (m + 2) (v / 100 / 100) e2)).drewN (n + 2 + 1):=by rw [<- eV3,kV2.o];exact store2_world w blk off e2 (n + 2) (m + 2 + 1) (m + 2) _ _ (by omega) (by omega)
   obtain ⟨e3,he3⟩:∃ e,e=cC (m + 2) (v / 100 / 100) e2:=⟨_,rfl⟩;have se3:e3.size=d.size:=by rw [he3,cO];exact se2
   rw [<- he3] at wV3;have kE3:=hhh he3;clear eV3 cc2 cf2 kV2 ja2 jb2 he3 se2;have hh3:Holds (fun (b:UInt8)=>Value.int .u8 (b.toNat:Int)) V3 blk off e3:=by rw [wV3];exact holds_putRow _ w blk off d e3 kH.o se3
   obtain ⟨F3,hF3⟩:∃ F:Nat -> Int,∀ t,F t=(e3[t]!.toNat:Int):=⟨_,fun _=>rfl⟩;have cc3:∀ t,t < d.size -> V3.cell? ⟨blk,off + t,none⟩=some (.int .u8 (F3 t)):=fun t ht=>by rw [hF3];exact (hh3 t (by omega)).1
   have cf3:∀ t,t < d.size -> V3.frozen? ⟨blk,off + t,none⟩=false:=fun t ht=>(hh3 t (by omega)).2
   have kV3:=hhh wV3;clear wV3 hF3 hh3;have hvl3:v / 100 / 100 / 100 % 100 < 100:=Nat.mod_lt _ (by decide)
   go_name_slot 10 y3 hy3
   have hye3:y3=((v / 100 / 100 / 100 % 100 * 2:Nat):Int):=by omega
   have ja3:∀ w,(Instr.index 9 (.string Lib.smalls) (.int .u32 (y3 + 1))).run Tryz.prog w = .ok (.int .u8 ((sm (v / 100 / 100 / 100 % 100 * 2 + 1)).toNat:Int)) w:=idx_smalls 9 Tryz.underlying9 .u32 _ _ (by omega) (by omega);have jb3:∀ w,(Instr.index 9 (.string Lib.smalls) (.int .u32 y3)).run Tryz.prog w = .ok (.int .u8 ((sm (v / 100 / 100 / 100 % 100 * 2)).toNat:Int)) w:=idx_smalls 9 Tryz.underlying9 .u32 _ _ (by omega) (by omega);have ylo3:0 <= y3:=by omega
   have yhi3:y3 <= 198:=by omega
   clear hy3 hye3 hvl3;go_region;go_wp2;go_roundw
   case rel =>
    refine ⟨m,v / 100000000,n + 3 + 1,cC m (v / 100 / 100 / 100) e3,by first | go_num | (congr 1;omega),by first | go_num | (congr 1;omega),by rw [kV3.o];exact store2_world w blk off e3 (n + 3) (m + 1) m _ _ (by omega) (by omega),⟨(cO _ _ _).trans se3,by omega,by omega,?_⟩⟩;rw [kE3.o,kE2.o,kE1.o,<- aD5];exact I0.out.same
   case measure=>simp [RowKit.intOf];omega
  ·obtain ⟨x,hx⟩:∃ x,x=v % 4294967296:=⟨_,rfl⟩
   have hxi:IntKind.u32.wrap (v:Int)=(x:Int):=by rw [IntKind.wrap_u32];omega
   have hxl:x < 4294967296:=by omega
   have hF:fin d.size u d=tl nd x e0:=by rw [<- I0.out.same,aF2 nd v (by omega),hx]
   have kF:=hhh hF;clear hx hF hu64;have hc8:nd=0 \/ nd=1 \/ nd=2 \/ nd=3 \/ nd=4 \/ nd=5 \/ nd=6 \/ nd=7:=by omega
   clear I0;rcases hc8 with rfl | rfl | rfl | rfl | rfl | rfl | rfl | rfl
   ·go_wp2
    go_end0;exact ⟨rfl,n,by rw [kF.o];exact kV0.o⟩
   ·go_wp2
    go_end0;exact ⟨rfl,n,by rw [kF.o,kV0.o];exact store1_world0 w blk off e0 n _ x (by omega) (by omega)⟩
   ·go_wp2
    have hvl0:x % 100 < 100:=Nat.mod_lt _ (by decide)
    go_name_slot 16 y0 hy0
    have hye0:y0=((x % 100 * 2:Nat):Int):=by omega
    have ja0:∀ w,(Instr.index 9 (.string Lib.smalls) (.int .u32 (y0 + 1))).run Tryz.prog w = .ok (.int .u8 ((sm (x % 100 * 2 + 1)).toNat:Int)) w:=idx_smalls 9 Tryz.underlying9 .u32 _ _ (by omega) (by omega);have jb0:∀ w,(Instr.index 9 (.string Lib.smalls) (.int .u32 y0)).run Tryz.prog w = .ok (.int .u8 ((sm (x % 100 * 2)).toNat:Int)) w:=idx_smalls 9 Tryz.underlying9 .u32 _ _ (by omega) (by omega);have ylo0:0 <= y0:=by omega
    have yhi0:y0 <= 198:=by omega
    clear hy0 hye0 hvl0;go_region;go_wp2;go_end0;refine ⟨rfl,n + 0 + 1,?_⟩;rw [kF.o,kV0.o,aJk];exact store2_world w blk off e0 (n + 0) (0 + 1) 0 _ _ (by omega) (by omega)
   ·go_wp2
    have hvl0:x % 100 < 100:=Nat.mod_lt _ (by decide)
    go_name_slot 16 y0 hy0
    have hye0:y0=((x % 100 * 2:Nat):Int):=by omega
    have ja0:∀ w,(Instr.index 9 (.string Lib.smalls) (.int .u32 (y0 + 1))).run Tryz.prog w = .ok (.int .u8 ((sm (x % 100 * 2 + 1)).toNat:Int)) w:=idx_smalls 9 Tryz.underlying9 .u32 _ _ (by omega) (by omega);have jb0:∀ w,(Instr.index 9 (.string Lib.smalls) (.int .u32 y0)).run Tryz.prog w = .ok (.int .u8 ((sm (x % 100 * 2)).toNat:Int)) w:=idx_smalls 9 Tryz.underlying9 .u32 _ _ (by omega) (by omega);have ylo0:0 <= y0:=by omega
    have yhi0:y0 <= 198:=by omega
    clear hy0 hye0 hvl0;go_region;go_wp2;go_end0;refine ⟨rfl,n + 0 + 1,?_⟩;rw [kF.o,kV0.o,aJq];exact store21_world w blk off e0 (n + 0) (1 + 1) 1 _ _ _ (x / 100) (by omega) (by omega) (by omega)
   ·go_wp2
    have hvl0:x % 100 < 100:=Nat.mod_lt _ (by decide)
    go_name_slot 15 y0 hy0
    have hye0:y0=((x % 100 * 2:Nat):Int):=by omega
    have ja0:∀ w,(Instr.index 9 (.string Lib.smalls) (.int .u32 (y0 + 1))).run Tryz.prog w = .ok (.int .u8 ((sm (x % 100 * 2 + 1)).toNat:Int)) w:=idx_smalls 9 Tryz.underlying9 .u32 _ _ (by omega) (by omega);have jb0:∀ w,(Instr.index 9 (.string Lib.smalls) (.int .u32 y0)).run Tryz.prog w = .ok (.int .u8 ((sm (x % 100 * 2)).toNat:Int)) w:=idx_smalls 9 Tryz.underlying9 .u32 _ _ (by omega) (by omega);have ylo0:0 <= y0:=by omega
    have yhi0:y0 <= 198:=by omega
    clear hy0 hye0 hvl0;go_region;go_wp2
    go_name_world V1 eV1
    have wV1:V1=(putRow (fun (b:UInt8)=>Value.int .u8 (b.toNat:Int)) w blk off (cC (2) (x) e0)).drewN (n + 0 + 1):=by rw [<- eV1,kV0.o];exact store2_world w blk off e0 (n + 0) (2 + 1) (2) _ _ (by omega) (by omega)
    obtain ⟨e1,he1⟩:∃ e,e=cC (2) (x) e0:=⟨_,rfl⟩;have se1:e1.size=d.size:=by rw [he1,cO];exact se0
    rw [<- he1] at wV1;have kE1:=hhh he1;clear eV1 cc0 cf0 kV0 ja0 jb0 he1 se0;have hh1:Holds (fun (b:UInt8)=>Value.int .u8 (b.toNat:Int)) V1 blk off e1:=by rw [wV1];exact holds_putRow _ w blk off d e1 kH.o se1
    obtain ⟨F1,hF1⟩:∃ F:Nat -> Int,∀ t,F t=(e1[t]!.toNat:Int):=⟨_,fun _=>rfl⟩;have cc1:∀ t,t < d.size -> V1.cell? ⟨blk,off + t,none⟩=some (.int .u8 (F1 t)):=fun t ht=>by rw [hF1];exact (hh1 t (by omega)).1
    have cf1:∀ t,t < d.size -> V1.frozen? ⟨blk,off + t,none⟩=false:=fun t ht=>(hh1 t (by omega)).2
    have kV1:=hhh wV1;clear wV1 hF1 hh1;have hvl1:x / 100 % 100 < 100:=Nat.mod_lt _ (by decide)
    go_name_slot 14 y1 hy1
    have hye1:y1=((x / 100 % 100 * 2:Nat):Int):=by omega
    have ja1:∀ w,(Instr.index 9 (.string Lib.smalls) (.int .u32 (y1 + 1))).run Tryz.prog w = .ok (.int .u8 ((sm (x / 100 % 100 * 2 + 1)).toNat:Int)) w:=idx_smalls 9 Tryz.underlying9 .u32 _ _ (by omega) (by omega);have jb1:∀ w,(Instr.index 9 (.string Lib.smalls) (.int .u32 y1)).run Tryz.prog w = .ok (.int .u8 ((sm (x / 100 % 100 * 2)).toNat:Int)) w:=idx_smalls 9 Tryz.underlying9 .u32 _ _ (by omega) (by omega);have ylo1:0 <= y1:=by omega
    have yhi1:y1 <= 198:=by omega
    clear hy1 hye1 hvl1;go_region;go_wp2;go_end0;refine ⟨rfl,n + 1 + 1,?_⟩;rw [kF.o,kV1.o,aJl,<- kE1.o];exact store2_world w blk off e1 (n + 1) (0 + 1) 0 _ _ (by omega) (by omega)
   ·go_wp2
    have hvl0:x % 100 < 100:=Nat.mod_lt _ (by decide)
    go_name_slot 15 y0 hy0
    have hye0:y0=((x % 100 * 2:Nat):Int):=by omega
    have ja0:∀ w,(Instr.index 9 (.string Lib.smalls) (.int .u32 (y0 + 1))).run Tryz.prog w = .ok (.int .u8 ((sm (x % 100 * 2 + 1)).toNat:Int)) w:=idx_smalls 9 Tryz.underlying9 .u32 _ _ (by omega) (by omega);have jb0:∀ w,(Instr.index 9 (.string Lib.smalls) (.int .u32 y0)).run Tryz.prog w = .ok (.int .u8 ((sm (x % 100 * 2)).toNat:Int)) w:=idx_smalls 9 Tryz.underlying9 .u32 _ _ (by omega) (by omega);have ylo0:0 <= y0:=by omega
    have yhi0:y0 <= 198:=by omega
    clear hy0 hye0 hvl0;go_region;go_wp2
    go_name_world V1 eV1
    have wV1:V1=(putRow (fun (b:UInt8)=>Value.int .u8 (b.toNat:Int)) w blk off (cC (3) (x) e0)).drewN (n + 0 + 1):=by rw [<- eV1,kV0.o];exact store2_world w blk off e0 (n + 0) (3 + 1) (3) _ _ (by omega) (by omega)
    obtain ⟨e1,he1⟩:∃ e,e=cC (3) (x) e0:=⟨_,rfl⟩;have se1:e1.size=d.size:=by rw [he1,cO];exact se0
    rw [<- he1] at wV1;have kE1:=hhh he1;clear eV1 cc0 cf0 kV0 ja0 jb0 he1 se0;have hh1:Holds (fun (b:UInt8)=>Value.int .u8 (b.toNat:Int)) V1 blk off e1:=by rw [wV1];exact holds_putRow _ w blk off d e1 kH.o se1
    obtain ⟨F1,hF1⟩:∃ F:Nat -> Int,∀ t,F t=(e1[t]!.toNat:Int):=⟨_,fun _=>rfl⟩;have cc1:∀ t,t < d.size -> V1.cell? ⟨blk,off + t,none⟩=some (.int .u8 (F1 t)):=fun t ht=>by rw [hF1];exact (hh1 t (by omega)).1
    have cf1:∀ t,t < d.size -> V1.frozen? ⟨blk,off + t,none⟩=false:=fun t ht=>(hh1 t (by omega)).2
    have kV1:=hhh wV1;clear wV1 hF1 hh1;have hvl1:x / 100 % 100 < 100:=Nat.mod_lt _ (by decide)
    go_name_slot 14 y1 hy1
    have hye1:y1=((x / 100 % 100 * 2:Nat):Int):=by omega
    have ja1:∀ w,(Instr.index 9 (.string Lib.smalls) (.int .u32 (y1 + 1))).run Tryz.prog w = .ok (.int .u8 ((sm (x / 100 % 100 * 2 + 1)).toNat:Int)) w:=idx_smalls 9 Tryz.underlying9 .u32 _ _ (by omega) (by omega);have jb1:∀ w,(Instr.index 9 (.string Lib.smalls) (.int .u32 y1)).run Tryz.prog w = .ok (.int .u8 ((sm (x / 100 % 100 * 2)).toNat:Int)) w:=idx_smalls 9 Tryz.underlying9 .u32 _ _ (by omega) (by omega);have ylo1:0 <= y1:=by omega
    have yhi1:y1 <= 198:=by omega
    clear hy1 hye1 hvl1;go_region;go_wp2;go_end0;have hq:x / 100 / 100=x / 10000:=by rw [Nat.div_div_eq_div_mul x 100 100]
    refine ⟨rfl,n + 1 + 1,?_⟩;rw [kF.o,kV1.o,aJd,<- kE1.o,hq];exact store21_world w blk off e1 (n + 1) (1 + 1) 1 _ _ _ (x / 10000) (by omega) (by omega) (by omega)
   ·go_wp2
    have hvl0:x % 100 < 100:=Nat.mod_lt _ (by decide)
    go_name_slot 15 y0 hy0
    have hye0:y0=((x % 100 * 2:Nat):Int):=by omega
    have ja0:∀ w,(Instr.index 9 (.string Lib.smalls) (.int .u32 (y0 + 1))).run Tryz.prog w = .ok (.int .u8 ((sm (x % 100 * 2 + 1)).toNat:Int)) w:=idx_smalls 9 Tryz.underlying9 .u32 _ _ (by omega) (by omega);have jb0:∀ w,(Instr.index 9 (.string Lib.smalls) (.int .u32 y0)).run Tryz.prog w = .ok (.int .u8 ((sm (x % 100 * 2)).toNat:Int)) w:=idx_smalls 9 Tryz.underlying9 .u32 _ _ (by omega) (by omega);have ylo0:0 <= y0:=by omega
    have yhi0:y0 <= 198:=by omega
    clear hy0 hye0 hvl0;go_region;go_wp2
    go_name_world V1 eV1
    have wV1:V1=(putRow (fun (b:UInt8)=>Value.int .u8 (b.toNat:Int)) w blk off (cC (4) (x) e0)).drewN (n + 0 + 1):=by rw [<- eV1,kV0.o];exact store2_world w blk off e0 (n + 0) (4 + 1) (4) _ _ (by omega) (by omega)
    obtain ⟨e1,he1⟩:∃ e,e=cC (4) (x) e0:=⟨_,rfl⟩;have se1:e1.size=d.size:=by rw [he1,cO];exact se0
    rw [<- he1] at wV1;have kE1:=hhh he1;clear eV1 cc0 cf0 kV0 ja0 jb0 he1 se0;have hh1:Holds (fun (b:UInt8)=>Value.int .u8 (b.toNat:Int)) V1 blk off e1:=by rw [wV1];exact holds_putRow _ w blk off d e1 kH.o se1
    obtain ⟨F1,hF1⟩:∃ F:Nat -> Int,∀ t,F t=(e1[t]!.toNat:Int):=⟨_,fun _=>rfl⟩;have cc1:∀ t,t < d.size -> V1.cell? ⟨blk,off + t,none⟩=some (.int .u8 (F1 t)):=fun t ht=>by rw [hF1];exact (hh1 t (by omega)).1
    have cf1:∀ t,t < d.size -> V1.frozen? ⟨blk,off + t,none⟩=false:=fun t ht=>(hh1 t (by omega)).2
    have kV1:=hhh wV1;clear wV1 hF1 hh1;have hvl1:x / 100 % 100 < 100:=Nat.mod_lt _ (by decide)
    go_name_slot 14 y1 hy1
    have hye1:y1=((x / 100 % 100 * 2:Nat):Int):=by omega
    have ja1:∀ w,(Instr.index 9 (.string Lib.smalls) (.int .u32 (y1 + 1))).run Tryz.prog w = .ok (.int .u8 ((sm (x / 100 % 100 * 2 + 1)).toNat:Int)) w:=idx_smalls 9 Tryz.underlying9 .u32 _ _ (by omega) (by omega);have jb1:∀ w,(Instr.index 9 (.string Lib.smalls) (.int .u32 y1)).run Tryz.prog w = .ok (.int .u8 ((sm (x / 100 % 100 * 2)).toNat:Int)) w:=idx_smalls 9 Tryz.underlying9 .u32 _ _ (by omega) (by omega);have ylo1:0 <= y1:=by omega
    have yhi1:y1 <= 198:=by omega
    clear hy1 hye1 hvl1;go_region;go_wp2
    go_name_world V2 eV2
    have wV2:V2=(putRow (fun (b:UInt8)=>Value.int .u8 (b.toNat:Int)) w blk off (cC (2) (x / 100) e1)).drewN (n + 1 + 1):=by rw [<- eV2,kV1.o];exact store2_world w blk off e1 (n + 1) (2 + 1) (2) _ _ (by omega) (by omega)
    obtain ⟨e2,he2⟩:∃ e,e=cC (2) (x / 100) e1:=⟨_,rfl⟩;have se2:e2.size=d.size:=by rw [he2,cO];exact se1
    rw [<- he2] at wV2;have kE2:=hhh he2;clear eV2 cc1 cf1 kV1 ja1 jb1 he2 se1;have hh2:Holds (fun (b:UInt8)=>Value.int .u8 (b.toNat:Int)) V2 blk off e2:=by rw [wV2];exact holds_putRow _ w blk off d e2 kH.o se2
    obtain ⟨F2,hF2⟩:∃ F:Nat -> Int,∀ t,F t=(e2[t]!.toNat:Int):=⟨_,fun _=>rfl⟩;have cc2:∀ t,t < d.size -> V2.cell? ⟨blk,off + t,none⟩=some (.int .u8 (F2 t)):=fun t ht=>by rw [hF2];exact (hh2 t (by omega)).1
    have cf2:∀ t,t < d.size -> V2.frozen? ⟨blk,off + t,none⟩=false:=fun t ht=>(hh2 t (by omega)).2
    have kV2:=hhh wV2;clear wV2 hF2 hh2;have hvl2:x / 100 / 100 % 100 < 100:=Nat.mod_lt _ (by decide)
    go_name_slot 16 y2 hy2
    have hye2:y2=((x / 100 / 100 % 100 * 2:Nat):Int):=by omega
    have ja2:∀ w,(Instr.index 9 (.string Lib.smalls) (.int .u32 (y2 + 1))).run Tryz.prog w = .ok (.int .u8 ((sm (x / 100 / 100 % 100 * 2 + 1)).toNat:Int)) w:=idx_smalls 9 Tryz.underlying9 .u32 _ _ (by omega) (by omega);have jb2:∀ w,(Instr.index 9 (.string Lib.smalls) (.int .u32 y2)).run Tryz.prog w = .ok (.int .u8 ((sm (x / 100 / 100 % 100 * 2)).toNat:Int)) w:=idx_smalls 9 Tryz.underlying9 .u32 _ _ (by omega) (by omega);have ylo2:0 <= y2:=by omega
    have yhi2:y2 <= 198:=by omega
    clear hy2 hye2 hvl2;go_region;go_wp2;go_end0;refine ⟨rfl,n + 2 + 1,?_⟩;rw [kF.o,kV2.o,aJs,<- kE1.o,<- kE2.o];exact store2_world w blk off e2 (n + 2) (0 + 1) 0 _ _ (by omega) (by omega)
   ·go_wp2
    have hvl0:x % 100 < 100:=Nat.mod_lt _ (by decide)
    go_name_slot 15 y0 hy0
    have hye0:y0=((x % 100 * 2:Nat):Int):=by omega
    have ja0:∀ w,(Instr.index 9 (.string Lib.smalls) (.int .u32 (y0 + 1))).run Tryz.prog w = .ok (.int .u8 ((sm (x % 100 * 2 + 1)).toNat:Int)) w:=idx_smalls 9 Tryz.underlying9 .u32 _ _ (by omega) (by omega);have jb0:∀ w,(Instr.index 9 (.string Lib.smalls) (.int .u32 y0)).run Tryz.prog w = .ok (.int .u8 ((sm (x % 100 * 2)).toNat:Int)) w:=idx_smalls 9 Tryz.underlying9 .u32 _ _ (by omega) (by omega);have ylo0:0 <= y0:=by omega
    have yhi0:y0 <= 198:=by omega
    clear hy0 hye0 hvl0;go_region;go_wp2
    go_name_world V1 eV1
    have wV1:V1=(putRow (fun (b:UInt8)=>Value.int .u8 (b.toNat:Int)) w blk off (cC (5) (x) e0)).drewN (n + 0 + 1):=by rw [<- eV1,kV0.o];exact store2_world w blk off e0 (n + 0) (5 + 1) (5) _ _ (by omega) (by omega)
    obtain ⟨e1,he1⟩:∃ e,e=cC (5) (x) e0:=⟨_,rfl⟩;have se1:e1.size=d.size:=by rw [he1,cO];exact se0
    rw [<- he1] at wV1;have kE1:=hhh he1;clear eV1 cc0 cf0 kV0 ja0 jb0 he1 se0;have hh1:Holds (fun (b:UInt8)=>Value.int .u8 (b.toNat:Int)) V1 blk off e1:=by rw [wV1];exact holds_putRow _ w blk off d e1 kH.o se1
    obtain ⟨F1,hF1⟩:∃ F:Nat -> Int,∀ t,F t=(e1[t]!.toNat:Int):=⟨_,fun _=>rfl⟩;have cc1:∀ t,t < d.size -> V1.cell? ⟨blk,off + t,none⟩=some (.int .u8 (F1 t)):=fun t ht=>by rw [hF1];exact (hh1 t (by omega)).1
    have cf1:∀ t,t < d.size -> V1.frozen? ⟨blk,off + t,none⟩=false:=fun t ht=>(hh1 t (by omega)).2
    have kV1:=hhh wV1;clear wV1 hF1 hh1;have hvl1:x / 100 % 100 < 100:=Nat.mod_lt _ (by decide)
    go_name_slot 14 y1 hy1
    have hye1:y1=((x / 100 % 100 * 2:Nat):Int):=by omega
    have ja1:∀ w,(Instr.index 9 (.string Lib.smalls) (.int .u32 (y1 + 1))).run Tryz.prog w = .ok (.int .u8 ((sm (x / 100 % 100 * 2 + 1)).toNat:Int)) w:=idx_smalls 9 Tryz.underlying9 .u32 _ _ (by omega) (by omega);have jb1:∀ w,(Instr.index 9 (.string Lib.smalls) (.int .u32 y1)).run Tryz.prog w = .ok (.int .u8 ((sm (x / 100 % 100 * 2)).toNat:Int)) w:=idx_smalls 9 Tryz.underlying9 .u32 _ _ (by omega) (by omega);have ylo1:0 <= y1:=by omega
    have yhi1:y1 <= 198:=by omega
    clear hy1 hye1 hvl1;go_region;go_wp2
    go_name_world V2 eV2
    have wV2:V2=(putRow (fun (b:UInt8)=>Value.int .u8 (b.toNat:Int)) w blk off (cC (3) (x / 100) e1)).drewN (n + 1 + 1):=by rw [<- eV2,kV1.o];exact store2_world w blk off e1 (n + 1) (3 + 1) (3) _ _ (by omega) (by omega)
    obtain ⟨e2,he2⟩:∃ e,e=cC (3) (x / 100) e1:=⟨_,rfl⟩;have se2:e2.size=d.size:=by rw [he2,cO];exact se1
    rw [<- he2] at wV2;have kE2:=hhh he2;clear eV2 cc1 cf1 kV1 ja1 jb1 he2 se1;have hh2:Holds (fun (b:UInt8)=>Value.int .u8 (b.toNat:Int)) V2 blk off e2:=by rw [wV2];exact holds_putRow _ w blk off d e2 kH.o se2
    obtain ⟨F2,hF2⟩:∃ F:Nat -> Int,∀ t,F t=(e2[t]!.toNat:Int):=⟨_,fun _=>rfl⟩;have cc2:∀ t,t < d.size -> V2.cell? ⟨blk,off + t,none⟩=some (.int .u8 (F2 t)):=fun t ht=>by rw [hF2];exact (hh2 t (by omega)).1
    have cf2:∀ t,t < d.size -> V2.frozen? ⟨blk,off + t,none⟩=false:=fun t ht=>(hh2 t (by omega)).2
    have kV2:=hhh wV2;clear wV2 hF2 hh2;have hvl2:x / 100 / 100 % 100 < 100:=Nat.mod_lt _ (by decide)
    go_name_slot 16 y2 hy2
    have hye2:y2=((x / 100 / 100 % 100 * 2:Nat):Int):=by omega
    have ja2:∀ w,(Instr.index 9 (.string Lib.smalls) (.int .u32 (y2 + 1))).run Tryz.prog w = .ok (.int .u8 ((sm (x / 100 / 100 % 100 * 2 + 1)).toNat:Int)) w:=idx_smalls 9 Tryz.underlying9 .u32 _ _ (by omega) (by omega);have jb2:∀ w,(Instr.index 9 (.string Lib.smalls) (.int .u32 y2)).run Tryz.prog w = .ok (.int .u8 ((sm (x / 100 / 100 % 100 * 2)).toNat:Int)) w:=idx_smalls 9 Tryz.underlying9 .u32 _ _ (by omega) (by omega);have ylo2:0 <= y2:=by omega
    have yhi2:y2 <= 198:=by omega
    clear hy2 hye2 hvl2;go_region;go_wp2;go_end0;have hq:x / 100 / 100 / 100=x / 10000 / 100:=by rw [Nat.div_div_eq_div_mul x 100 100]
    refine ⟨rfl,n + 2 + 1,?_⟩;rw [kF.o,kV2.o,aJh,<- kE1.o,<- kE2.o,hq];exact store21_world w blk off e2 (n + 2) (1 + 1) 1 _ _ _ (x / 10000 / 100) (by omega) (by omega) (by omega)
end Fmt
end
section
open Go.RowKit Go.Sort Go.Shelf
namespace Fmt
open Esc (bI bS)
def count (T:bI) (u:Nat):Nat:=Lib.l10 (Lib.bitLen u) + (if T.pow (Lib.l10 (Lib.bitLen u)) <= u then 1 else 0)
theorem count_le (T:bI) (u:Nat) (h1:1 <= u) (h2:u < 18446744073709551616):count T u <= 20:=by
 have:=(Lib.numDigits_eq u h1 h2).2;unfold count;split <;> omega
def digits (T:bI) (u:Nat):List UInt8:=if u < 100 then Lib.decDigits u else (fin (count T u) u (Array.replicate (count T u) 0)).toList
theorem gS (T:bI) (u:Nat) (h2:u < 18446744073709551616):(digits T u).length <= 20:=by
 unfold digits;split
 ·rename_i h
  rw [Lib.decDigits_length];by_cases h1:1 <= u
  ·have:=Lib.numDigits_eq u h1 h2
   rw [<- this.1];have:=this.2;split <;> omega
  ·rw [Lib.nDigits_small (by omega)];omega
 ·rename_i h
  rw [Array.length_toList,wR,Array.size_replicate];exact count_le T u (by omega) h2
theorem aIk (T : bI) (u : Nat) (h1 : 1 ≤ u) (h2 : u < 18446744073709551616) (w : World) (hT : bS T w) :
  Calls Tryz.prog 244 #[.int .u64 (u:Int)] w fun e w'=>e = .returned (.int .i64 (count T u:Int)) /\ w'=w:=by
 have h19:=(Lib.numDigits_eq u h1 h2).2;have hL:Lib.bitLen u <= 64:=Lib.bitLen_le u 64 (Nat.le_refl _) h2;have hto:((u:Int)).toNat=u:=by omega
 have hcell:=hT.pow (Lib.l10 (Lib.bitLen u)) (by omega);have kc:=hhh (show count T u=Lib.l10 (Lib.bitLen u) + (if T.pow (Lib.l10 (Lib.bitLen u)) <= u then 1 else 0) from rfl);generalize hq:Lib.l10 (Lib.bitLen u)=q at h19 hcell kc;have h20:q < 20:=by omega
 generalize T.pow q=P at hcell kc;generalize count T u=C at kc |-;clear hT;go_enter Tryz.func244,Tryz.ntmps244
 go_wp2_with (first
  | (go_at_call 127;refine (Tryz.bits_Len64 _ _ (by omega) (by omega)).mono ?_;rintro e w' ⟨rfl,rfl⟩)
  | (go_at_call 247;refine (Tryz.internal_strconv_log10Pow2 _ (by first | exact hL | (rw [hto];exact hL)) _).mono ?_;rintro e w' ⟨rfl,rfl⟩)
  | (go_at_call 248;refine (Tryz.internal_strconv_bool2_int _ _).mono ?_;rintro e w' ⟨rfl,rfl⟩))
 all_goals go_ret
 all_goals (
  refine ⟨?_,rfl⟩;have hnd:=kc.o;congr 2
  split at hnd <;> simp_all <;> omega)
theorem aBf (w:World) (o:Obj) (d:Array UInt8) (n:Nat):Below w.heap.size w ((putRow (fun (b:UInt8)=>Value.int .u8 (b.toNat:Int)) (w.alloc o) w.heap.size 0 d).drewN n):=by
 rw [alloc_eq_grow];obtain ⟨os',_,e⟩:=putRow_grow_new (fun (b:UInt8)=>Value.int .u8 (b.toNat:Int)) w #[o] w.heap.size 0 d (Nat.le_refl _);rw [e];have b:Below w.heap.size w (grow w os'):=⟨rfl,rfl,rfl,by rw [size_grow];omega,fun k hk=>heap_grow_old w os' hk⟩;exact below_drewN b n
theorem zL (w:World) (T:TypeId) (nd:Nat) (hs:nd <= 24):Holds (fun (b:UInt8)=>Value.int .u8 (b.toNat:Int)) (w.alloc (.cells Lib.zeros24 T)) w.heap.size 0 (Array.replicate nd (0:UInt8)):=fun j hj=>by
 have hj':j < nd:=by simpa using hj
 refine ⟨?_,World.frozen?_alloc_new _ _ _ _⟩;rw [World.cell?_alloc_new,Lib.zeros24_at _ (by omega),getElem!_pos _ j hj];simp
theorem aC0 (T : bI) (u : Nat) (hu64 : u < 18446744073709551616) (w : World) (hT : bS T w) :
  Calls Tryz.prog 238 #[.int .u64 (u:Int),.int .i64 10] w fun e w'=>e = .returned (.string ⟨(digits T u).toArray⟩) /\ Below w.heap.size w w':=by
 by_cases hs:u < 100
 ·rw [show digits T u=Lib.decDigits u from if_pos hs]
  have hc:(u:Int) < 100:=by omega
  have hw:IntKind.i64.wrap (u:Int)=(u:Int):=by rw [IntKind.wrap_i64];omega
  go_enter Tryz.func238,Tryz.ntmps238;go_wp2_with (go_at_call 243;refine (Tryz.internal_strconv_small u hs _).mono ?_;rintro e w' ⟨rfl,rfl⟩);go_ret;exact ⟨rfl,Below.refl _ _⟩
 ·have hu1:1 <= u:=by omega
  have hd:digits T u=(fin (count T u) u (Array.replicate (count T u) 0)).toList:=if_neg hs;have hnd20:=count_le T u hu1 hu64;have HN:=hhh (fun w h=>aIk T u hu1 hu64 w h);obtain ⟨C,hC⟩:∃ C,C=count T u:=⟨_,rfl⟩;rw [<- hC] at hd hnd20 HN;have hc:¬ (u:Int) < 100:=by omega
  have hal:Tryz.prog.arrayLen 314=24:=by kernel_rfl
  have hsl:∀ W,(Instr.sliceAt 314 (.pointer (some ⟨w.heap.size,0,none⟩)) none (some (.int .i64 (C:Int))) none).run Tryz.prog W = .ok (.slice (some ⟨w.heap.size,0,none⟩) C 24) W:=fun W=>by
   rw [run_sliceAt_array_h W 314 ⟨w.heap.size,0,none⟩ (by kernel_rfl) .i64 (C:Int) (by omega) (by rw [hal];omega)]
   go_simp
  have hH0:=zL w 314 C (by omega);have hfmt:=any w.heap.size 0 24 u (Array.replicate C 0) (w.alloc (.cells Lib.zeros24 314)) hH0 hu64 (by rw [Array.size_replicate];omega);rw [Array.size_replicate] at hfmt;have hsize:(fin C u (Array.replicate C 0)).size=C:=by rw [wR,Array.size_replicate]
  have hT1:=hhh (hT.of (((Below.refl w.heap.size w).alloc (Nat.le_refl _) (.cells Lib.zeros24 314)).mono hT.size));rw [hd];generalize fin C u (Array.replicate C 0)=dk at hfmt hsize;have HH0:=hhh hH0;have hf:=hhh hfmt;clear hH0 hal hT hC hd hfmt hs;go_enter Tryz.func238,Tryz.ntmps238;go_wp2_with (go_at_call 244;refine (HN.o _ hT1.o).mono ?_;rintro e w' ⟨rfl,rfl⟩)
  go_at_call 245
  refine hf.o.mono ?_;rintro e w' ⟨rfl,k,rfl⟩;have hcv:(convert 92 9 (.slice (some ⟨w.heap.size,0,none⟩) C 24)).run Tryz.prog ((putRow (fun (b:UInt8)=>Value.int .u8 (b.toNat:Int)) (w.alloc (.cells Lib.zeros24 314)) w.heap.size 0 dk).drewN k) = .ok (.string ⟨dk.toList.toArray⟩) ((putRow (fun (b:UInt8)=>Value.int .u8 (b.toNat:Int)) (w.alloc (.cells Lib.zeros24 314)) w.heap.size 0 dk).drewN k):=by
   have h:=run_convert_bytes_back (P:=Tryz.prog) ((putRow (fun (b:UInt8)=>Value.int .u8 (b.toNat:Int)) (w.alloc (.cells Lib.zeros24 314)) w.heap.size 0 dk).drewN k) 92 9 5 ⟨w.heap.size,0,none⟩ 24 dk.toList Tryz.underlying92 Tryz.underlying5 Tryz.underlying9 (fun j hj=>by
    have hj2:j < dk.size:=by rwa [Array.length_toList] at hj
    rw [Array.getElem_toList,Lib.add_plain,World.cell?_drewN,<- getElem!_pos dk j hj2]
    exact cell?_putRow (fun (b:UInt8)=>Value.int .u8 (b.toNat:Int)) _ w.heap.size 0 _ dk HH0.o (by rw [hsize,Array.size_replicate]) j hj2)
   rw [Array.length_toList,hsize] at h;exact h
  have hB:=hhh (aBf w (.cells Lib.zeros24 314) dk k);generalize (putRow (fun (b:UInt8)=>Value.int .u8 (b.toNat:Int)) (w.alloc (.cells Lib.zeros24 314)) w.heap.size 0 dk).drewN k=W2 at hcv hB |-;go_wp2;go_ret;exact ⟨rfl,hB.o⟩
theorem aA3 (T : bI) (u : Nat) (hu64 : u < 18446744073709551616) (w : World) (hT : bS T w) :
  Calls Tryz.prog 234 #[.int .u64 (u:Int),.int .i64 10] w fun e w'=>e = .returned (.string ⟨(digits T u).toArray⟩) /\ Below w.heap.size w w':=by
 have H:=hhh (aC0 T u hu64 w hT);clear hT;go_enter Tryz.func234,Tryz.ntmps234;go_wp2_with (fail);refine H.o.mono ?_;rintro e w' ⟨rfl,b⟩;go_wp2;go_ret;exact ⟨rfl,b⟩
def dec (T:bI) (neg:Bool) (mag:Nat):List UInt8 :=
 if neg=true then if mag=18446744073709551615 then [45,49,56,52,52,54,55,52,52,48,55,51,55,48,57,53,53,49,54,49,54] else 45 :: digits T (mag + 1)
 else digits T mag
theorem aGi (T:bI):(⟨(dec T true 18446744073709551615).toArray⟩:ByteArray)=⟨#[45,49,56,52,52,54,55,52,52,48,55,51,55,48,57,53,53,49,54,49,54]⟩:=rfl
theorem aAb (T:bI) (n:Bool) (m:Nat) (h:m < 18446744073709551616):(dec T n m).length <= 21:=by
 unfold dec;split
 ·split
  ·decide
  ·have:=gS T (m + 1) (by omega)
   simp only [List.length_cons];omega
 ·have:=gS T m h;omega
theorem aB0 (T : bI) (neg : Bool) (mag : Nat) (hm : mag < 18446744073709551616) (w : World) (hT : bS T w) :
  Calls Tryz.prog 231 #[.agg #[.bool neg,.int .u64 (mag:Int)]] w fun e w'=>e = .returned (.string ⟨(dec T neg mag).toArray⟩) /\ Below w.heap.size w w':=by
 have B0:=hhh (fun o=>(Below.refl w.heap.size w).alloc (Nat.le_refl _) o);have HT:=hhh (fun (o:Obj)=>hT.of ((B0.o o).mono hT.size));have HM:=hhh hm;have bel:∀ {W:World} {o:Obj},Below (w.alloc o).heap.size (w.alloc o) W -> Below w.heap.size w W:=fun {W o} b=>(B0.o o).trans (b.mono (by rw [show (w.alloc o).heap.size=w.heap.size + 1 by show (w.heap.push o).size=_;simp];omega))
 have Bel:=@hhh _ @bel;clear bel hT
 cases neg with
 | false =>
  clear hm;go_enter Tryz.func231,Tryz.ntmps231;go_wp2_with (fail);refine (aA3 T mag HM.o _ (HT.o _)).mono ?_;rintro e w' ⟨rfl,b⟩;go_wp2;go_ret;exact ⟨rfl,Bel.o b⟩
 | true =>
  by_cases h:mag=18446744073709551615
  ·subst h
   have D:=hhh (aGi T);clear hm HM;go_enter Tryz.func231,Tryz.ntmps231;go_wp2;go_ret;exact ⟨by rw [D.o];rfl,B0.o _⟩
  ·have hw:IntKind.u64.wrap ((mag:Int) + 1)=((mag + 1:Nat):Int):=by rw [IntKind.wrap_u64];omega
   obtain ⟨m1,hm1⟩:∃ m1,m1=mag + 1:=⟨_,rfl⟩;rw [<- hm1] at hw;have H1:=hhh hm1;have h2:((mag:Int) == 18446744073709551615)=false:=by rw [beq_eq_false_iff_ne];omega
   have hlt:m1 < 18446744073709551616:=by omega
   have HL:=hhh hlt;have Hne:=hhh h;clear hm h hlt hm1;go_enter Tryz.func231,Tryz.ntmps231;go_wp2_with (fail);have HF:=aA3 T m1 HL.o;obtain ⟨S,hS⟩:∃ S:ByteArray,S=⟨(digits T m1).toArray⟩:=⟨_,rfl⟩;have hS2:S.size <= 20:=by
    rw [hS];show (digits T m1).toArray.size <= 20;rw [List.size_toArray];exact gS T m1 HL.o
   rw [<- hS] at HF;have HS:=hhh hS;clear hS;refine (HF _ (HT.o _)).mono ?_;rintro e w' ⟨rfl,b⟩;clear HF;go_wp2;go_ret;refine ⟨Own.aM ?_,Bel.o b⟩;rw [HS.o,dec,if_pos rfl,if_neg Hne.o,H1.o];rfl
end Fmt
end
end Go.Proofs.YtfheacchdfdeiaaGreat
