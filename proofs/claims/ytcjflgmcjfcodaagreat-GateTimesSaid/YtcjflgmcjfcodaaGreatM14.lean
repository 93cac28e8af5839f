/- Texts of the walk, joined. -/
import Derived.Test.YtcjflgmcjfcodaaGreatM01
import Derived.Test.YtcjflgmcjfcodaaGreatM13
import Derived.BigCall
import Derived.BigGuard
import Derived.BigRegion
import Derived.CellFam
import Derived.Deep.QuietTactic
import Derived.Deep.RegionWith
import Derived.Laws.BytesArg
import Derived.Lib.Hide
import Derived.Lib.ItoaMem
import Derived.Lib.ItoaWalk
import Derived.Lib.Walk
import Derived.OpenShut
import Derived.RegionTactic
import Derived.Shelf.LaysM
import Derived.Shelf.RegionOpenPlain
import Derived.Sort.Grow
import Derived.Test.YtcjflgmcjfcodaaGreatChecked
import Derived.WalkKit
import Derived.WalkLawsBesides
import Derived.WalkSpells
set_option maxRecDepth 100000
set_option maxHeartbeats 8000000
namespace Go.Proofs.Tryz end Go.Proofs.Tryz
namespace Go.Proofs.YtcjflgmcjfcodaaGreat
open Go.Proofs.Tryz
section
namespace Conv
end Conv
end
section
open Go.Shelf Go.RowKit Go.Sort Go.Lib
namespace Fmt
def cI (k v:Nat) (d:Array UInt8):Array UInt8:=(d.setIfInBounds (k + 1) (sm (v % 100 * 2 + 1))).setIfInBounds k (sm (v % 100 * 2))
theorem cY (k v:Nat) (d:Array UInt8):(cI k v d).size=d.size:=by simp [cI]
def tl (nd x:Nat) (d:Array UInt8):Array UInt8 :=
 if nd=1 then (d).setIfInBounds 0 (UInt8.ofNat (48 + x))
 else if nd=2 then (cI 0 (x) d)
 else if nd=3 then ((cI 1 (x) d)).setIfInBounds 0 (UInt8.ofNat (48 + x / 100))
 else if nd=4 then (cI 0 (x / 100) (cI 2 (x) d))
 else if nd=5 then ((cI 1 (x / 100) (cI 3 (x) d))).setIfInBounds 0 (UInt8.ofNat (48 + x / 100 / 100))
 else if nd=6 then (cI 0 (x / 100 / 100) (cI 2 (x / 100) (cI 4 (x) d)))
 else if nd=7 then ((cI 1 (x / 100 / 100) (cI 3 (x / 100) (cI 5 (x) d)))).setIfInBounds 0 (UInt8.ofNat (48 + x / 100 / 100 / 100))
 else d
theorem aM2 (x:Nat) (d:Array UInt8):tl 2 x d=(cI 0 (x) d):=by
 unfold tl;rw [ifn (by decide),ifp rfl]
theorem aMz (x:Nat) (d:Array UInt8):tl 3 x d=((cI 1 (x) d)).setIfInBounds 0 (UInt8.ofNat (48 + x / 100)):=by
 unfold tl;rw [ifn (by decide),ifn (by decide),ifp rfl]
theorem aMq (x:Nat) (d:Array UInt8):tl 4 x d=(cI 0 (x / 100) (cI 2 (x) d)):=by
 unfold tl;rw [ifn (by decide),ifn (by decide),ifn (by decide),ifp rfl]
theorem aMp (x:Nat) (d:Array UInt8):tl 5 x d=((cI 1 (x / 100) (cI 3 (x) d))).setIfInBounds 0 (UInt8.ofNat (48 + x / 100 / 100)):=by
 unfold tl;rw [ifn (by decide),ifn (by decide),ifn (by decide),ifn (by decide),ifp rfl]
theorem aMt (x:Nat) (d:Array UInt8):tl 6 x d=(cI 0 (x / 100 / 100) (cI 2 (x / 100) (cI 4 (x) d))):=by
 unfold tl;rw [ifn (by decide),ifn (by decide),ifn (by decide),ifn (by decide),ifn (by decide),ifp rfl]
theorem aMu (x:Nat) (d:Array UInt8):tl 7 x d=((cI 1 (x / 100 / 100) (cI 3 (x / 100) (cI 5 (x) d)))).setIfInBounds 0 (UInt8.ofNat (48 + x / 100 / 100 / 100)):=by
 unfold tl;rw [ifn (by decide),ifn (by decide),ifn (by decide),ifn (by decide),ifn (by decide),ifn (by decide),ifp rfl]
def fin (nd v:Nat) (d:Array UInt8):Array UInt8 :=
 if 8 <= nd then fin (nd - 8) (v / 100000000) (cI (nd - 8) (v / 100 / 100 / 100) (cI (nd - 6) (v / 100 / 100) (cI (nd - 4) (v / 100) (cI (nd - 2) v d)))) else tl nd (v % 4294967296) d
termination_by nd
theorem aHe (m v:Nat) (d:Array UInt8):fin (m + 8) v d=fin m (v / 100000000) (cI m (v / 100 / 100 / 100) (cI (m + 2) (v / 100 / 100) (cI (m + 4) (v / 100) (cI (m + 6) v d)))):=by
 rw [fin,ifp (by omega)];rfl
theorem aKo (nd v:Nat) (h:nd < 8) (d:Array UInt8):fin nd v d=tl nd (v % 4294967296) d:=by rw [fin,ifn (by omega)]
theorem aKa (nd x:Nat) (d:Array UInt8):(tl nd x d).size=d.size:=by
 unfold tl
 repeat' split
 all_goals simp [cY]
theorem zH (nd v:Nat) (d:Array UInt8):(fin nd v d).size=d.size:=by
 induction nd using Nat.strongRecOn generalizing v d with
 | _ nd ih =>
  rw [fin];split
  ·rw [ih _ (by omega)];simp only [cY]
  ·exact aKa _ _ _
structure At (d:Array UInt8) (u nd v:Nat) (dk:Array UInt8):Prop where
 size:dk.size=d.size
 le:nd <= d.size
 low:v < 18446744073709551616
 same:fin nd v dk=fin d.size u d
theorem any (blk off cap : Nat) (u : Nat) (d : Array UInt8) (w : World) (hH : Holds (fun (b : UInt8) => Value.int .u8 (b.toNat : Int)) w blk off d) (hu64 : u < 18446744073709551616) (hsz : d.size < 1000) :
  Calls prog 228 #[.slice (some ⟨blk,off,none⟩) d.size cap,.int .u64 u] w fun e w'=>e = .returned (.tuple #[]) /\ ∃ n:Nat,w'=(putRow (fun (b:UInt8)=>Value.int .u8 (b.toNat:Int)) w blk off (fin d.size u d)).drewN n:=by
 go_enter func228,ntmps228
 go_name_bytes SM hSM
 have eSM:SM=Lib.smalls:=by rw [<- hSM];decide +kernel
 subst eSM;clear hSM;go_wp2;go_loopw [1,4] (fun vu vn wr=>∃ (nd v n:Nat) (dk:Array UInt8),vu = .int .u64 v /\ vn = .int .i64 nd /\ wr=(putRow (fun (b:UInt8)=>Value.int .u8 (b.toNat:Int)) w blk off dk).drewN n /\ Hid (At d u nd v dk)) (fun _ vn _=>(RowKit.intOf vn).toNat)
 case atStart=>exact ⟨d.size,u,0,d,rfl,rfl,(putRow_self _ _ _ _ _ hH).symm,⟨rfl,Nat.le_refl _,hu64,rfl⟩⟩
 case round =>
  obtain ⟨nd,v,n,e0,rfl,rfl,wV0,I0⟩:=hrel
  rename World=>V0
  have kH:=hhh hH;clear hH;have hlow:=I0.out.low;have hle:=I0.out.le;have se0:=I0.out.size;have hh0:Holds (fun (b:UInt8)=>Value.int .u8 (b.toNat:Int)) V0 blk off e0:=by rw [wV0];exact holds_putRow _ w blk off d e0 kH.o se0
  obtain ⟨F0,hF0⟩:∃ F:Nat -> Int,∀ t,F t=(e0[t]!.toNat:Int):=⟨_,fun _=>rfl⟩;have cc0:∀ t,t < d.size -> V0.cell? ⟨blk,off + t,none⟩=some (.int .u8 (F0 t)):=fun t ht=>by rw [hF0];exact (hh0 t (by omega)).1
  have cf0:∀ t,t < d.size -> V0.frozen? ⟨blk,off + t,none⟩=false:=fun t ht=>(hh0 t (by omega)).2
  have kV0:=hhh wV0;clear wV0 hF0 hh0;by_cases h8:8 <= nd
  ·obtain ⟨m,rfl⟩:∃ m,nd=m + 8:=⟨nd - 8,by omega⟩
   go_wp2;have hvl0:v % 100 < 100:=Nat.mod_lt _ (by decide)
   go_name_slot 9 y0 hy0
   have hye0:y0=((v % 100 * 2:Nat):Int):=by omega
   have ja0:∀ w,(Instr.index 9 (.string Lib.smalls) (.int .u32 (y0 + 1))).run prog w = .ok (.int .u8 ((sm (v % 100 * 2 + 1)).toNat:Int)) w:=idx_smalls 9 underlying9 .u32 _ _ (by omega) (by omega);have jb0:∀ w,(Instr.index 9 (.string Lib.smalls) (.int .u32 y0)).run prog w = .ok (.int .u8 ((sm (v % 100 * 2)).toNat:Int)) w:=idx_smalls 9 underlying9 .u32 _ _ (by omega) (by omega);have ylo0:0 <= y0:=by omega
   have yhi0:y0 <= 198:=by omega
   clear hy0 hye0 hvl0;go_region;go_wp2
   go_name_world V1 eV1
   have wV1:V1=(putRow (fun (b:UInt8)=>Value.int .u8 (b.toNat:Int)) w blk off (cI (m + 6) (v) e0)).drewN (n + 0 + 1):=by rw [<- eV1,kV0.o];exact store2_world w blk off e0 (n + 0) (m + 6 + 1) (m + 6) _ _ (by omega) (by omega)
   obtain ⟨e1,he1⟩:∃ e,e=cI (m + 6) (v) e0:=⟨_,rfl⟩;have se1:e1.size=d.size:=by rw [he1,cY];exact se0
   rw [<- he1] at wV1;have kE1:=hhh he1;clear eV1 cc0 cf0 kV0 ja0 jb0 he1 se0;have hh1:Holds (fun (b:UInt8)=>Value.int .u8 (b.toNat:Int)) V1 blk off e1:=by rw [wV1];exact holds_putRow _ w blk off d e1 kH.o se1
   obtain ⟨F1,hF1⟩:∃ F:Nat -> Int,∀ t,F t=(e1[t]!.toNat:Int):=⟨_,fun _=>rfl⟩;have cc1:∀ t,t < d.size -> V1.cell? ⟨blk,off + t,none⟩=some (.int .u8 (F1 t)):=fun t ht=>by rw [hF1];exact (hh1 t (by omega)).1
   have cf1:∀ t,t < d.size -> V1.frozen? ⟨blk,off + t,none⟩=false:=fun t ht=>(hh1 t (by omega)).2
   have kV1:=hhh wV1;clear wV1 hF1 hh1;have hvl1:v / 100 % 100 < 100:=Nat.mod_lt _ (by decide)
   go_name_slot 8 y1 hy1
   have hye1:y1=((v / 100 % 100 * 2:Nat):Int):=by omega
   have ja1:∀ w,(Instr.index 9 (.string Lib.smalls) (.int .u32 (y1 + 1))).run prog w = .ok (.int .u8 ((sm (v / 100 % 100 * 2 + 1)).toNat:Int)) w:=idx_smalls 9 underlying9 .u32 _ _ (by omega) (by omega);have jb1:∀ w,(Instr.index 9 (.string Lib.smalls) (.int .u32 y1)).run prog w = .ok (.int .u8 ((sm (v / 100 % 100 * 2)).toNat:Int)) w:=idx_smalls 9 underlying9 .u32 _ _ (by omega) (by omega);have ylo1:0 <= y1:=by omega
   have yhi1:y1 <= 198:=by omega
   clear hy1 hye1 hvl1;go_region;go_wp2
   go_name_world V2 eV2
   have wV2:V2=(putRow (fun (b:UInt8)=>Value.int .u8 (b.toNat:Int)) w blk off (cI (m + 4) (v / 100) e1)).drewN (n + 1 + 1):=by rw [<- eV2,kV1.o];exact store2_world w blk off e1 (n + 1) (m + 4 + 1) (m + 4) _ _ (by omega) (by omega)
   obtain ⟨e2,he2⟩:∃ e,e=cI (m + 4) (v / 100) e1:=⟨_,rfl⟩;have se2:e2.size=d.size:=by rw [he2,cY];exact se1
   rw [<- he2] at wV2;have kE2:=hhh he2;clear eV2 cc1 cf1 kV1 ja1 jb1 he2 se1;have hh2:Holds (fun (b:UInt8)=>Value.int .u8 (b.toNat:Int)) V2 blk off e2:=by rw [wV2];exact holds_putRow _ w blk off d e2 kH.o se2
   obtain ⟨F2,hF2⟩:∃ F:Nat -> Int,∀ t,F t=(e2[t]!.toNat:Int):=⟨_,fun _=>rfl⟩;have cc2:∀ t,t < d.size -> V2.cell? ⟨blk,off + t,none⟩=some (.int .u8 (F2 t)):=fun t ht=>by rw [hF2];exact (hh2 t (by omega)).1
   have cf2:∀ t,t < d.size -> V2.frozen? ⟨blk,off + t,none⟩=false:=fun t ht=>(hh2 t (by omega)).2
   have kV2:=hhh wV2;clear wV2 hF2 hh2;have hvl2:v / 100 / 100 % 100 < 100:=Nat.mod_lt _ (by decide)
   go_name_slot 11 y2 hy2
   have hye2:y2=((v / 100 / 100 % 100 * 2:Nat):Int):=by omega
   have ja2:∀ w,(Instr.index 9 (.string Lib.smalls) (.int .u32 (y2 + 1))).run prog w = .ok (.int .u8 ((sm (v / 100 / 100 % 100 * 2 + 1)).toNat:Int)) w:=idx_smalls 9 underlying9 .u32 _ _ (by omega) (by omega);have jb2:∀ w,(Instr.index 9 (.string Lib.smalls) (.int .u32 y2)).run prog w = .ok (.int .u8 ((sm (v / 100 / 100 % 100 * 2)).toNat:Int)) w:=idx_smalls 9 underlying9 .u32 _ _ (by omega) (by omega);have ylo2:0 <= y2:=by omega
   have yhi2:y2 <= 198:=by omega
   clear hy2 hye2 hvl2;go_region;go_wp2
   go_name_world V3 eV3
   have wV3:V3=(putRow (fun (b:UInt8)=>Value.int .u8 (b.toNat:Int)) w blk off (cI (m + 2) (v / 100 / 100) e2)).drewN (n + 2 + 1):=by rw [<- eV3,kV2.o];exact store2_world w blk off e2 (n + 2) (m + 2 + 1) (m + 2) _ _ (by omega) (by omega)
   obtain ⟨e3,he3⟩:∃ e,e=cI (m + 2) (v / 100 / 100) e2:=⟨_,rfl⟩;have se3:e3.size=d.size:=by rw [he3,cY];exact se2
   rw [<- he3] at wV3;have kE3:=hhh he3;clear eV3 cc2 cf2 kV2 ja2 jb2 he3 se2;have hh3:Holds (fun (b:UInt8)=>Value.int .u8 (b.toNat:Int)) V3 blk off e3:=by rw [wV3];exact holds_putRow _ w blk off d e3 kH.o se3
   obtain ⟨F3,hF3⟩:∃ F:Nat -> Int,∀ t,F t=(e3[t]!.toNat:Int):=⟨_,fun _=>rfl⟩;have cc3:∀ t,t < d.size -> V3.cell? ⟨blk,off + t,none⟩=some (.int .u8 (F3 t)):=fun t ht=>by rw [hF3];exact (hh3 t (by omega)).1
   have cf3:∀ t,t < d.size -> V3.frozen? ⟨blk,off + t,none⟩=false:=fun t ht=>(hh3 t (by omega)).2
   have kV3:=hhh wV3;clear wV3 hF3 hh3;have hvl3:v / 100 / 100 / 100 % 100 < 100:=Nat.mod_lt _ (by decide)
   go_name_slot 10 y3 hy3
   have hye3:y3=((v / 100 / 100 / 100 % 100 * 2:Nat):Int):=by omega
   have ja3:∀ w,(Instr.index 9 (.string Lib.smalls) (.int .u32 (y3 + 1))).run prog w = .ok (.int .u8 ((sm (v / 100 / 100 / 100 % 100 * 2 + 1)).toNat:Int)) w:=idx_smalls 9 underlying9 .u32 _ _ (by omega) (by omega);have jb3:∀ w,(Instr.index 9 (.string Lib.smalls) (.int .u32 y3)).run prog w = .ok (.int .u8 ((sm (v / 100 / 100 / 100 % 100 * 2)).toNat:Int)) w:=idx_smalls 9 underlying9 .u32 _ _ (by omega) (by omega);have ylo3:0 <= y3:=by omega
   have yhi3:y3 <= 198:=by omega
   clear hy3 hye3 hvl3;go_region;go_wp2;go_roundw
   case rel =>
    refine ⟨m,v / 100000000,n + 3 + 1,cI m (v / 100 / 100 / 100) e3,by first | go_num | (congr 1;omega),by first | go_num | (congr 1;omega),by rw [kV3.o];exact store2_world w blk off e3 (n + 3) (m + 1) m _ _ (by omega) (by omega),⟨(cY _ _ _).trans se3,by omega,by omega,?_⟩⟩;rw [kE3.o,kE2.o,kE1.o,<- aHe];exact I0.out.same
   case measure=>simp [RowKit.intOf];omega
  ·obtain ⟨x,hx⟩:∃ x,x=v % 4294967296:=⟨_,rfl⟩
   have hxi:IntKind.u32.wrap (v:Int)=(x:Int):=by rw [IntKind.wrap_u32];omega
   have hxl:x < 4294967296:=by omega
   have hF:fin d.size u d=tl nd x e0:=by rw [<- I0.out.same,aKo nd v (by omega),hx]
   have kF:=hhh hF;clear hx hF hu64;have hc8:nd=0 \/ nd=1 \/ nd=2 \/ nd=3 \/ nd=4 \/ nd=5 \/ nd=6 \/ nd=7:=by omega
   clear I0;rcases hc8 with rfl | rfl | rfl | rfl | rfl | rfl | rfl | rfl
   ·go_wp2
    go_end0;exact ⟨rfl,n,by rw [kF.o];exact kV0.o⟩
   ·go_wp2
    go_end0;exact ⟨rfl,n,by rw [kF.o,kV0.o];exact store1_world0 w blk off e0 n _ x (by omega) (by omega)⟩
   ·go_wp2
    have hvl0:x % 100 < 100:=Nat.mod_lt _ (by decide)
    go_name_slot 16 y0 hy0
    have hye0:y0=((x % 100 * 2:Nat):Int):=by omega
    have ja0:∀ w,(Instr.index 9 (.string Lib.smalls) (.int .u32 (y0 + 1))).run prog w = .ok (.int .u8 ((sm (x % 100 * 2 + 1)).toNat:Int)) w:=idx_smalls 9 underlying9 .u32 _ _ (by omega) (by omega);have jb0:∀ w,(Instr.index 9 (.string Lib.smalls) (.int .u32 y0)).run prog w = .ok (.int .u8 ((sm (x % 100 * 2)).toNat:Int)) w:=idx_smalls 9 underlying9 .u32 _ _ (by omega) (by omega);have ylo0:0 <= y0:=by omega
    have yhi0:y0 <= 198:=by omega
    clear hy0 hye0 hvl0;go_region;go_wp2;go_end0;refine ⟨rfl,n + 0 + 1,?_⟩;rw [kF.o,kV0.o,aM2];exact store2_world w blk off e0 (n + 0) (0 + 1) 0 _ _ (by omega) (by omega)
   ·go_wp2
    have hvl0:x % 100 < 100:=Nat.mod_lt _ (by decide)
    go_name_slot 16 y0 hy0
    have hye0:y0=((x % 100 * 2:Nat):Int):=by omega
    have ja0:∀ w,(Instr.index 9 (.string Lib.smalls) (.int .u32 (y0 + 1))).run prog w = .ok (.int .u8 ((sm (x % 100 * 2 + 1)).toNat:Int)) w:=idx_smalls 9 underlying9 .u32 _ _ (by omega) (by omega);have jb0:∀ w,(Instr.index 9 (.string Lib.smalls) (.int .u32 y0)).run prog w = .ok (.int .u8 ((sm (x % 100 * 2)).toNat:Int)) w:=idx_smalls 9 underlying9 .u32 _ _ (by omega) (by omega);have ylo0:0 <= y0:=by omega
    have yhi0:y0 <= 198:=by omega
    clear hy0 hye0 hvl0;go_region;go_wp2;go_end0;refine ⟨rfl,n + 0 + 1,?_⟩;rw [kF.o,kV0.o,aMz];exact store21_world w blk off e0 (n + 0) (1 + 1) 1 _ _ _ (x / 100) (by omega) (by omega) (by omega)
   ·go_wp2
    have hvl0:x % 100 < 100:=Nat.mod_lt _ (by decide)
    go_name_slot 15 y0 hy0
    have hye0:y0=((x % 100 * 2:Nat):Int):=by omega
    have ja0:∀ w,(Instr.index 9 (.string Lib.smalls) (.int .u32 (y0 + 1))).run prog w = .ok (.int .u8 ((sm (x % 100 * 2 + 1)).toNat:Int)) w:=idx_smalls 9 underlying9 .u32 _ _ (by omega) (by omega);have jb0:∀ w,(Instr.index 9 (.string Lib.smalls) (.int .u32 y0)).run prog w = .ok (.int .u8 ((sm (x % 100 * 2)).toNat:Int)) w:=idx_smalls 9 underlying9 .u32 _ _ (by omega) (by omega);have ylo0:0 <= y0:=by omega
    have yhi0:y0 <= 198:=by omega
    clear hy0 hye0 hvl0;go_region;go_wp2
    go_name_world V1 eV1
    have wV1:V1=(putRow (fun (b:UInt8)=>Value.int .u8 (b.toNat:Int)) w blk off (cI (2) (x) e0)).drewN (n + 0 + 1):=by rw [<- eV1,kV0.o];exact store2_world w blk off e0 (n + 0) (2 + 1) (2) _ _ (by omega) (by omega)
    obtain ⟨e1,he1⟩:∃ e,e=cI (2) (x) e0:=⟨_,rfl⟩;have se1:e1.size=d.size:=by rw [he1,cY];exact se0
    rw [<- he1] at wV1;have kE1:=hhh he1;clear eV1 cc0 cf0 kV0 ja0 jb0 he1 se0;have hh1:Holds (fun (b:UInt8)=>Value.int .u8 (b.toNat:Int)) V1 blk off e1:=by rw [wV1];exact holds_putRow _ w blk off d e1 kH.o se1
    obtain ⟨F1,hF1⟩:∃ F:Nat -> Int,∀ t,F t=(e1[t]!.toNat:Int):=⟨_,fun _=>rfl⟩;have cc1:∀ t,t < d.size -> V1.cell? ⟨blk,off + t,none⟩=some (.int .u8 (F1 t)):=fun t ht=>by rw [hF1];exact (hh1 t (by omega)).1
    have cf1:∀ t,t < d.size -> V1.frozen? ⟨blk,off + t,none⟩=false:=fun t ht=>(hh1 t (by omega)).2
    have kV1:=hhh wV1;clear wV1 hF1 hh1;have hvl1:x / 100 % 100 < 100:=Nat.mod_lt _ (by decide)
    go_name_slot 14 y1 hy1
    have hye1:y1=((x / 100 % 100 * 2:Nat):Int):=by omega
    have ja1:∀ w,(Instr.index 9 (.string Lib.smalls) (.int .u32 (y1 + 1))).run prog w = .ok (.int .u8 ((sm (x / 100 % 100 * 2 + 1)).toNat:Int)) w:=idx_smalls 9 underlying9 .u32 _ _ (by omega) (by omega);have jb1:∀ w,(Instr.index 9 (.string Lib.smalls) (.int .u32 y1)).run prog w = .ok (.int .u8 ((sm (x / 100 % 100 * 2)).toNat:Int)) w:=idx_smalls 9 underlying9 .u32 _ _ (by omega) (by omega);have ylo1:0 <= y1:=by omega
    have yhi1:y1 <= 198:=by omega
    clear hy1 hye1 hvl1;go_region;go_wp2;go_end0;refine ⟨rfl,n + 1 + 1,?_⟩;rw [kF.o,kV1.o,aMq,<- kE1.o];exact store2_world w blk off e1 (n + 1) (0 + 1) 0 _ _ (by omega) (by omega)
   ·go_wp2
    have hvl0:x % 100 < 100:=Nat.mod_lt _ (by decide)
    go_name_slot 15 y0 hy0
    have hye0:y0=((x % 100 * 2:Nat):Int):=by omega
    have ja0:∀ w,(Instr.index 9 (.string Lib.smalls) (.int .u32 (y0 + 1))).run prog w = .ok (.int .u8 ((sm (x % 100 * 2 + 1)).toNat:Int)) w:=idx_smalls 9 underlying9 .u32 _ _ (by omega) (by omega);have jb0:∀ w,(Instr.index 9 (.string Lib.smalls) (.int .u32 y0)).run prog w = .ok (.int .u8 ((sm (x % 100 * 2)).toNat:Int)) w:=idx_smalls 9 underlying9 .u32 _ _ (by omega) (by omega);have ylo0:0 <= y0:=by omega
    have yhi0:y0 <= 198:=by omega
    clear hy0 hye0 hvl0;go_region;go_wp2
    go_name_world V1 eV1
    have wV1:V1=(putRow (fun (b:UInt8)=>Value.int .u8 (b.toNat:Int)) w blk off (cI (3) (x) e0)).drewN (n + 0 + 1):=by rw [<- eV1,kV0.o];exact store2_world w blk off e0 (n + 0) (3 + 1) (3) _ _ (by omega) (by omega)
    obtain ⟨e1,he1⟩:∃ e,e=cI (3) (x) e0:=⟨_,rfl⟩;have se1:e1.size=d.size:=by rw [he1,cY];exact se0
    rw [<- he1] at wV1;have kE1:=hhh he1;clear eV1 cc0 cf0 kV0 ja0 jb0 he1 se0;have hh1:Holds (fun (b:UInt8)=>Value.int .u8 (b.toNat:Int)) V1 blk off e1:=by rw [wV1];exact holds_putRow _ w blk off d e1 kH.o se1
    obtain ⟨F1,hF1⟩:∃ F:Nat -> Int,∀ t,F t=(e1[t]!.toNat:Int):=⟨_,fun _=>rfl⟩;have cc1:∀ t,t < d.size -> V1.cell? ⟨blk,off + t,none⟩=some (.int .u8 (F1 t)):=fun t ht=>by rw [hF1];exact (hh1 t (by omega)).1
    have cf1:∀ t,t < d.size -> V1.frozen? ⟨blk,off + t,none⟩=false:=fun t ht=>(hh1 t (by omega)).2
    have kV1:=hhh wV1;clear wV1 hF1 hh1;have hvl1:x / 100 % 100 < 100:=Nat.mod_lt _ (by decide)
    go_name_slot 14 y1 hy1
    have hye1:y1=((x / 100 % 100 * 2:Nat):Int):=by omega
    have ja1:∀ w,(Instr.index 9 (.string Lib.smalls) (.int .u32 (y1 + 1))).run prog w = .ok (.int .u8 ((sm (x / 100 % 100 * 2 + 1)).toNat:Int)) w:=idx_smalls 9 underlying9 .u32 _ _ (by omega) (by omega);have jb1:∀ w,(Instr.index 9 (.string Lib.smalls) (.int .u32 y1)).run prog w = .ok (.int .u8 ((sm (x / 100 % 100 * 2)).toNat:Int)) w:=idx_smalls 9 underlying9 .u32 _ _ (by omega) (by omega);have ylo1:0 <= y1:=by omega
    have yhi1:y1 <= 198:=by omega
    clear hy1 hye1 hvl1;go_region;go_wp2;go_end0;have hq:x / 100 / 100=x / 10000:=by rw [Nat.div_div_eq_div_mul x 100 100]
    refine ⟨rfl,n + 1 + 1,?_⟩;rw [kF.o,kV1.o,aMp,<- kE1.o,hq];exact store21_world w blk off e1 (n + 1) (1 + 1) 1 _ _ _ (x / 10000) (by omega) (by omega) (by omega)
   ·go_wp2
    have hvl0:x % 100 < 100:=Nat.mod_lt _ (by decide)
    go_name_slot 15 y0 hy0
    have hye0:y0=((x % 100 * 2:Nat):Int):=by omega
    have ja0:∀ w,(Instr.index 9 (.string Lib.smalls) (.int .u32 (y0 + 1))).run prog w = .ok (.int .u8 ((sm (x % 100 * 2 + 1)).toNat:Int)) w:=idx_smalls 9 underlying9 .u32 _ _ (by omega) (by omega);have jb0:∀ w,(Instr.index 9 (.string Lib.smalls) (.int .u32 y0)).run prog w = .ok (.int .u8 ((sm (x % 100 * 2)).toNat:Int)) w:=idx_smalls 9 underlying9 .u32 _ _ (by omega) (by omega);have ylo0:0 <= y0:=by omega
    have yhi0:y0 <= 198:=by omega
    clear hy0 hye0 hvl0;go_region;go_wp2
    go_name_world V1 eV1
    have wV1:V1=(putRow (fun (b:UInt8)=>Value.int .u8 (b.toNat:Int)) w blk off (cI (4) (x) e0)).drewN (n + 0 + 1):=by rw [<- eV1,kV0.o];exact store2_world w blk off e0 (n + 0) (4 + 1) (4) _ _ (by omega) (by omega)
    obtain ⟨e1,he1⟩:∃ e,e=cI (4) (x) e0:=⟨_,rfl⟩;have se1:e1.size=d.size:=by rw [he1,cY];exact se0
    rw [<- he1] at wV1;have kE1:=hhh he1;clear eV1 cc0 cf0 kV0 ja0 jb0 he1 se0;have hh1:Holds (fun (b:UInt8)=>Value.int .u8 (b.toNat:Int)) V1 blk off e1:=by rw [wV1];exact holds_putRow _ w blk off d e1 kH.o se1
    obtain ⟨F1,hF1⟩:∃ F:Nat -> Int,∀ t,F t=(e1[t]!.toNat:Int):=⟨_,fun _=>rfl⟩;have cc1:∀ t,t < d.size -> V1.cell? ⟨blk,off + t,none⟩=some (.int .u8 (F1 t)):=fun t ht=>by rw [hF1];exact (hh1 t (by omega)).1
    have cf1:∀ t,t < d.size -> V1.frozen? ⟨blk,off + t,none⟩=false:=fun t ht=>(hh1 t (by omega)).2
    have kV1:=hhh wV1;clear wV1 hF1 hh1;have hvl1:x / 100 % 100 < 100:=Nat.mod_lt _ (by decide)
    go_name_slot 14 y1 hy1
    have hye1:y1=((x / 100 % 100 * 2:Nat):Int):=by omega
    have ja1:∀ w,(Instr.index 9 (.string Lib.smalls) (.int .u32 (y1 + 1))).run prog w = .ok (.int .u8 ((sm (x / 100 % 100 * 2 + 1)).toNat:Int)) w:=idx_smalls 9 underlying9 .u32 _ _ (by omega) (by omega);have jb1:∀ w,(Instr.index 9 (.string Lib.smalls) (.int .u32 y1)).run prog w = .ok (.int .u8 ((sm (x / 100 % 100 * 2)).toNat:Int)) w:=idx_smalls 9 underlying9 .u32 _ _ (by omega) (by omega);have ylo1:0 <= y1:=by omega
    have yhi1:y1 <= 198:=by omega
    clear hy1 hye1 hvl1;go_region;go_wp2
    go_name_world V2 eV2
    have wV2:V2=(putRow (fun (b:UInt8)=>Value.int .u8 (b.toNat:Int)) w blk off (cI (2) (x / 100) e1)).drewN (n + 1 + 1):=by rw [<- eV2,kV1.o];exact store2_world w blk off e1 (n + 1) (2 + 1) (2) _ _ (by omega) (by omega)
    obtain ⟨e2,he2⟩:∃ e,e=cI (2) (x / 100) e1:=⟨_,rfl⟩;have se2:e2.size=d.size:=by rw [he2,cY];exact se1
    rw [<- he2] at wV2;have kE2:=hhh he2;clear eV2 cc1 cf1 kV1 ja1 jb1 he2 se1;have hh2:Holds (fun (b:UInt8)=>Value.int .u8 (b.toNat:Int)) V2 blk off e2:=by rw [wV2];exact holds_putRow _ w blk off d e2 kH.o se2
    obtain ⟨F2,hF2⟩:∃ F:Nat -> Int,∀ t,F t=(e2[t]!.toNat:Int):=⟨_,fun _=>rfl⟩;have cc2:∀ t,t < d.size -> V2.cell? ⟨blk,off + t,none⟩=some (.int .u8 (F2 t)):=fun t ht=>by rw [hF2];exact (hh2 t (by omega)).1
    have cf2:∀ t,t < d.size -> V2.frozen? ⟨blk,off + t,none⟩=false:=fun t ht=>(hh2 t (by omega)).2
    have kV2:=hhh wV2;clear wV2 hF2 hh2;have hvl2:x / 100 / 100 % 100 < 100:=Nat.mod_lt _ (by decide)
    go_name_slot 16 y2 hy2
    have hye2:y2=((x / 100 / 100 % 100 * 2:Nat):Int):=by omega
    have ja2:∀ w,(Instr.index 9 (.string Lib.smalls) (.int .u32 (y2 + 1))).run prog w = .ok (.int .u8 ((sm (x / 100 / 100 % 100 * 2 + 1)).toNat:Int)) w:=idx_smalls 9 underlying9 .u32 _ _ (by omega) (by omega);have jb2:∀ w,(Instr.index 9 (.string Lib.smalls) (.int .u32 y2)).run prog w = .ok (.int .u8 ((sm (x / 100 / 100 % 100 * 2)).toNat:Int)) w:=idx_smalls 9 underlying9 .u32 _ _ (by omega) (by omega);have ylo2:0 <= y2:=by omega
    have yhi2:y2 <= 198:=by omega
    clear hy2 hye2 hvl2;go_region;go_wp2;go_end0;refine ⟨rfl,n + 2 + 1,?_⟩;rw [kF.o,kV2.o,aMt,<- kE1.o,<- kE2.o];exact store2_world w blk off e2 (n + 2) (0 + 1) 0 _ _ (by omega) (by omega)
   ·go_wp2
    have hvl0:x % 100 < 100:=Nat.mod_lt _ (by decide)
    go_name_slot 15 y0 hy0
    have hye0:y0=((x % 100 * 2:Nat):Int):=by omega
    have ja0:∀ w,(Instr.index 9 (.string Lib.smalls) (.int .u32 (y0 + 1))).run prog w = .ok (.int .u8 ((sm (x % 100 * 2 + 1)).toNat:Int)) w:=idx_smalls 9 underlying9 .u32 _ _ (by omega) (by omega);have jb0:∀ w,(Instr.index 9 (.string Lib.smalls) (.int .u32 y0)).run prog w = .ok (.int .u8 ((sm (x % 100 * 2)).toNat:Int)) w:=idx_smalls 9 underlying9 .u32 _ _ (by omega) (by omega);have ylo0:0 <= y0:=by omega
    have yhi0:y0 <= 198:=by omega
    clear hy0 hye0 hvl0;go_region;go_wp2
    go_name_world V1 eV1
    have wV1:V1=(putRow (fun (b:UInt8)=>Value.int .u8 (b.toNat:Int)) w blk off (cI (5) (x) e0)).drewN (n + 0 + 1):=by rw [<- eV1,kV0.o];exact store2_world w blk off e0 (n + 0) (5 + 1) (5) _ _ (by omega) (by omega)
    obtain ⟨e1,he1⟩:∃ e,e=cI (5) (x) e0:=⟨_,rfl⟩;have se1:e1.size=d.size:=by rw [he1,cY];exact se0
    rw [<- he1] at wV1;have kE1:=hhh he1;clear eV1 cc0 cf0 kV0 ja0 jb0 he1 se0;have hh1:Holds (fun (b:UInt8)=>Value.int .u8 (b.toNat:Int)) V1 blk off e1:=by rw [wV1];exact holds_putRow _ w blk off d e1 kH.o se1
    obtain ⟨F1,hF1⟩:∃ F:Nat -> Int,∀ t,F t=(e1[t]!.toNat:Int):=⟨_,fun _=>rfl⟩;have cc1:∀ t,t < d.size -> V1.cell? ⟨blk,off + t,none⟩=some (.int .u8 (F1 t)):=fun t ht=>by rw [hF1];exact (hh1 t (by omega)).1
    have cf1:∀ t,t < d.size -> V1.frozen? ⟨blk,off + t,none⟩=false:=fun t ht=>(hh1 t (by omega)).2
    have kV1:=hhh wV1;clear wV1 hF1 hh1;have hvl1:x / 100 % 100 < 100:=Nat.mod_lt _ (by decide)
    go_name_slot 14 y1 hy1
    have hye1:y1=((x / 100 % 100 * 2:Nat):Int):=by omega
    have ja1:∀ w,(Instr.index 9 (.string Lib.smalls) (.int .u32 (y1 + 1))).run prog w = .ok (.int .u8 ((sm (x / 100 % 100 * 2 + 1)).toNat:Int)) w:=idx_smalls 9 underlying9 .u32 _ _ (by omega) (by omega);have jb1:∀ w,(Instr.index 9 (.string Lib.smalls) (.int .u32 y1)).run prog w = .ok (.int .u8 ((sm (x / 100 % 100 * 2)).toNat:Int)) w:=idx_smalls 9 underlying9 .u32 _ _ (by omega) (by omega);have ylo1:0 <= y1:=by omega
    have yhi1:y1 <= 198:=by omega
    clear hy1 hye1 hvl1;go_region;go_wp2
    go_name_world V2 eV2
    have wV2:V2=(putRow (fun (b:UInt8)=>Value.int .u8 (b.toNat:Int)) w blk off (cI (3) (x / 100) e1)).drewN (n + 1 + 1):=by rw [<- eV2,kV1.o];exact store2_world w blk off e1 (n + 1) (3 + 1) (3) _ _ (by omega) (by omega)
    obtain ⟨e2,he2⟩:∃ e,e=cI (3) (x / 100) e1:=⟨_,rfl⟩;have se2:e2.size=d.size:=by rw [he2,cY];exact se1
    rw [<- he2] at wV2;have kE2:=hhh he2;clear eV2 cc1 cf1 kV1 ja1 jb1 he2 se1;have hh2:Holds (fun (b:UInt8)=>Value.int .u8 (b.toNat:Int)) V2 blk off e2:=by rw [wV2];exact holds_putRow _ w blk off d e2 kH.o se2
    obtain ⟨F2,hF2⟩:∃ F:Nat -> Int,∀ t,F t=(e2[t]!.toNat:Int):=⟨_,fun _=>rfl⟩;have cc2:∀ t,t < d.size -> V2.cell? ⟨blk,off + t,none⟩=some (.int .u8 (F2 t)):=fun t ht=>by rw [hF2];exact (hh2 t (by omega)).1
    have cf2:∀ t,t < d.size -> V2.frozen? ⟨blk,off + t,none⟩=false:=fun t ht=>(hh2 t (by omega)).2
    have kV2:=hhh wV2;clear wV2 hF2 hh2;have hvl2:x / 100 / 100 % 100 < 100:=Nat.mod_lt _ (by decide)
    go_name_slot 16 y2 hy2
    have hye2:y2=((x / 100 / 100 % 100 * 2:Nat):Int):=by omega
    have ja2:∀ w,(Instr.index 9 (.string Lib.smalls) (.int .u32 (y2 + 1))).run prog w = .ok (.int .u8 ((sm (x / 100 / 100 % 100 * 2 + 1)).toNat:Int)) w:=idx_smalls 9 underlying9 .u32 _ _ (by omega) (by omega);have jb2:∀ w,(Instr.index 9 (.string Lib.smalls) (.int .u32 y2)).run prog w = .ok (.int .u8 ((sm (x / 100 / 100 % 100 * 2)).toNat:Int)) w:=idx_smalls 9 underlying9 .u32 _ _ (by omega) (by omega);have ylo2:0 <= y2:=by omega
    have yhi2:y2 <= 198:=by omega
    clear hy2 hye2 hvl2;go_region;go_wp2;go_end0;have hq:x / 100 / 100 / 100=x / 10000 / 100:=by rw [Nat.div_div_eq_div_mul x 100 100]
    refine ⟨rfl,n + 2 + 1,?_⟩;rw [kF.o,kV2.o,aMu,<- kE1.o,<- kE2.o,hq];exact store21_world w blk off e2 (n + 2) (1 + 1) 1 _ _ _ (x / 10000 / 100) (by omega) (by omega) (by omega)
end Fmt
end
section
open Go.RowKit Go.Sort Go.Shelf
namespace Fmt
open Esc (bA bP)
def count (T:bA) (u:Nat):Nat:=Lib.l10 (Lib.bitLen u) + (if T.pow (Lib.l10 (Lib.bitLen u)) <= u then 1 else 0)
theorem count_le (T:bA) (u:Nat) (h1:1 <= u) (h2:u < 18446744073709551616):count T u <= 20:=by
 have:=(Lib.numDigits_eq u h1 h2).2;unfold count;split <;> omega
def digits (T:bA) (u:Nat):List UInt8:=if u < 100 then Lib.decDigits u else (fin (count T u) u (Array.replicate (count T u) 0)).toList
theorem iL (T:bA) (u:Nat) (h2:u < 18446744073709551616):(digits T u).length <= 20:=by
 unfold digits;split
 ·rename_i h
  rw [Lib.decDigits_length];by_cases h1:1 <= u
  ·have:=Lib.numDigits_eq u h1 h2
   rw [<- this.1];have:=this.2;split <;> omega
  ·rw [Lib.nDigits_small (by omega)];omega
 ·rename_i h
  rw [Array.length_toList,zH,Array.size_replicate];exact count_le T u (by omega) h2
theorem aLv (T : bA) (u : Nat) (h1 : 1 ≤ u) (h2 : u < 18446744073709551616) (w : World) (hT : bP T w) :
  Calls prog 227 #[.int .u64 (u:Int)] w fun e w'=>e = .returned (.int .i64 (count T u:Int)) /\ w'=w:=by
 have h19:=(Lib.numDigits_eq u h1 h2).2;have hL:Lib.bitLen u <= 64:=Lib.bitLen_le u 64 (Nat.le_refl _) h2;have hto:((u:Int)).toNat=u:=by omega
 have hcell:=hT.pow (Lib.l10 (Lib.bitLen u)) (by omega);have kc:=hhh (show count T u=Lib.l10 (Lib.bitLen u) + (if T.pow (Lib.l10 (Lib.bitLen u)) <= u then 1 else 0) from rfl);generalize hq:Lib.l10 (Lib.bitLen u)=q at h19 hcell kc;have h20:q < 20:=by omega
 generalize T.pow q=P at hcell kc;generalize count T u=C at kc |-;clear hT;go_enter func227,ntmps227
 go_wp2_with (first
  | (go_at_call 105;refine (Tryz.bits_Len64 _ _ (by omega) (by omega)).mono ?_;rintro e w' ⟨rfl,rfl⟩)
  | (go_at_call 230;refine (Tryz.internal_strconv_log10Pow2 _ (by first | exact hL | (rw [hto];exact hL)) _).mono ?_;rintro e w' ⟨rfl,rfl⟩)
  | (go_at_call 231;refine (Tryz.internal_strconv_bool2_int _ _).mono ?_;rintro e w' ⟨rfl,rfl⟩))
 all_goals go_ret
 all_goals (
  refine ⟨?_,rfl⟩;have hnd:=kc.o;congr 2
  split at hnd <;> simp_all <;> omega)
theorem aE6 (w:World) (o:Obj) (d:Array UInt8) (n:Nat):Below w.heap.size w ((putRow (fun (b:UInt8)=>Value.int .u8 (b.toNat:Int)) (w.alloc o) w.heap.size 0 d).drewN n):=by
 rw [alloc_eq_grow];obtain ⟨os',_,e⟩:=putRow_grow_new (fun (b:UInt8)=>Value.int .u8 (b.toNat:Int)) w #[o] w.heap.size 0 d (Nat.le_refl _);rw [e];have b:Below w.heap.size w (grow w os'):=⟨rfl,rfl,rfl,by rw [size_grow];omega,fun k hk=>heap_grow_old w os' hk⟩;exact below_drewN b n
theorem aBg (w:World) (T:TypeId) (nd:Nat) (hs:nd <= 24):Holds (fun (b:UInt8)=>Value.int .u8 (b.toNat:Int)) (w.alloc (.cells Lib.zeros24 T)) w.heap.size 0 (Array.replicate nd (0:UInt8)):=fun j hj=>by
 have hj':j < nd:=by simpa using hj
 refine ⟨?_,World.frozen?_alloc_new _ _ _ _⟩;rw [World.cell?_alloc_new,Lib.zeros24_at _ (by omega),getElem!_pos _ j hj];simp
theorem aEz (T : bA) (u : Nat) (hu64 : u < 18446744073709551616) (w : World) (hT : bP T w) :
  Calls prog 221 #[.int .u64 (u:Int),.int .i64 10] w fun e w'=>e = .returned (.string ⟨(digits T u).toArray⟩) /\ Below w.heap.size w w':=by
 by_cases hs:u < 100
 ·rw [show digits T u=Lib.decDigits u from ifp hs]
  have hc:(u:Int) < 100:=by omega
  have hw:IntKind.i64.wrap (u:Int)=(u:Int):=by rw [IntKind.wrap_i64];omega
  go_enter func221,ntmps221;go_wp2_with (go_at_call 226;refine (Tryz.internal_strconv_small u hs _).mono ?_;rintro e w' ⟨rfl,rfl⟩);go_ret;exact ⟨rfl,Below.refl _ _⟩
 ·have hu1:1 <= u:=by omega
  have hd:digits T u=(fin (count T u) u (Array.replicate (count T u) 0)).toList:=ifn hs;have hnd20:=count_le T u hu1 hu64;have HN:=hhh (fun w h=>aLv T u hu1 hu64 w h);obtain ⟨C,hC⟩:∃ C,C=count T u:=⟨_,rfl⟩;rw [<- hC] at hd hnd20 HN;have hc:¬ (u:Int) < 100:=by omega
  have hal:prog.arrayLen 287=24:=by kernel_rfl
  have hsl:∀ W,(Instr.sliceAt 287 (.pointer (some ⟨w.heap.size,0,none⟩)) none (some (.int .i64 (C:Int))) none).run prog W = .ok (.slice (some ⟨w.heap.size,0,none⟩) C 24) W:=fun W=>by
   rw [run_sliceAt_array_h W 287 ⟨w.heap.size,0,none⟩ (by kernel_rfl) .i64 (C:Int) (by omega) (by rw [hal];omega)]
   go_simp
  have hH0:=aBg w 287 C (by omega);have hfmt:=any w.heap.size 0 24 u (Array.replicate C 0) (w.alloc (.cells Lib.zeros24 287)) hH0 hu64 (by rw [Array.size_replicate];omega);rw [Array.size_replicate] at hfmt;have hsize:(fin C u (Array.replicate C 0)).size=C:=by rw [zH,Array.size_replicate]
  have hT1:=hhh (hT.of (((Below.refl w.heap.size w).alloc (Nat.le_refl _) (.cells Lib.zeros24 287)).mono hT.size));rw [hd];generalize fin C u (Array.replicate C 0)=dk at hfmt hsize;have HH0:=hhh hH0;have hf:=hhh hfmt;clear hH0 hal hT hC hd hfmt hs;go_enter func221,ntmps221;go_wp2_with (go_at_call 227;refine (HN.o _ hT1.o).mono ?_;rintro e w' ⟨rfl,rfl⟩)
  go_at_call 228
  refine hf.o.mono ?_;rintro e w' ⟨rfl,k,rfl⟩;have hcv:(convert 55 9 (.slice (some ⟨w.heap.size,0,none⟩) C 24)).run prog ((putRow (fun (b:UInt8)=>Value.int .u8 (b.toNat:Int)) (w.alloc (.cells Lib.zeros24 287)) w.heap.size 0 dk).drewN k) = .ok (.string ⟨dk.toList.toArray⟩) ((putRow (fun (b:UInt8)=>Value.int .u8 (b.toNat:Int)) (w.alloc (.cells Lib.zeros24 287)) w.heap.size 0 dk).drewN k):=by
   have h:=run_convert_bytes_back (P:=prog) ((putRow (fun (b:UInt8)=>Value.int .u8 (b.toNat:Int)) (w.alloc (.cells Lib.zeros24 287)) w.heap.size 0 dk).drewN k) 55 9 5 ⟨w.heap.size,0,none⟩ 24 dk.toList underlying55 underlying5 underlying9 (fun j hj=>by
    have hj2:j < dk.size:=by rwa [Array.length_toList] at hj
    rw [Array.getElem_toList,Lib.add_plain,World.cell?_drewN,<- getElem!_pos dk j hj2]
    exact cell?_putRow (fun (b:UInt8)=>Value.int .u8 (b.toNat:Int)) _ w.heap.size 0 _ dk HH0.o (by rw [hsize,Array.size_replicate]) j hj2)
   rw [Array.length_toList,hsize] at h;exact h
  have hB:=hhh (aE6 w (.cells Lib.zeros24 287) dk k);generalize (putRow (fun (b:UInt8)=>Value.int .u8 (b.toNat:Int)) (w.alloc (.cells Lib.zeros24 287)) w.heap.size 0 dk).drewN k=W2 at hcv hB |-;go_wp2;go_ret;exact ⟨rfl,hB.o⟩
theorem aCr (T : bA) (u : Nat) (hu64 : u < 18446744073709551616) (w : World) (hT : bP T w) :
  Calls prog 217 #[.int .u64 (u:Int),.int .i64 10] w fun e w'=>e = .returned (.string ⟨(digits T u).toArray⟩) /\ Below w.heap.size w w':=by
 have H:=hhh (aEz T u hu64 w hT);clear hT;go_enter func217,ntmps217;go_wp2_with (fail);refine H.o.mono ?_;rintro e w' ⟨rfl,b⟩;go_wp2;go_ret;exact ⟨rfl,b⟩
def dec (T:bA) (neg:Bool) (mag:Nat):List UInt8 :=
 if neg=true then if mag=18446744073709551615 then [45,49,56,52,52,54,55,52,52,48,55,51,55,48,57,53,53,49,54,49,54] else 45 :: digits T (mag + 1)
 else digits T mag
theorem aI7 (T:bA):(⟨(dec T true 18446744073709551615).toArray⟩:ByteArray)=⟨#[45,49,56,52,52,54,55,52,52,48,55,51,55,48,57,53,53,49,54,49,54]⟩:=rfl
theorem aBv (T:bA) (n:Bool) (m:Nat) (h:m < 18446744073709551616):(dec T n m).length <= 21:=by
 unfold dec;split
 ·split
  ·decide
  ·have:=iL T (m + 1) (by omega)
   simp only [List.length_cons];omega
 ·have:=iL T m h;omega
theorem aEn (T : bA) (neg : Bool) (mag : Nat) (hm : mag < 18446744073709551616) (w : World) (hT : bP T w) :
  Calls prog 214 #[.agg #[.bool neg,.int .u64 (mag:Int)]] w fun e w'=>e = .returned (.string ⟨(dec T neg mag).toArray⟩) /\ Below w.heap.size w w':=by
 have B0:=hhh (fun o=>(Below.refl w.heap.size w).alloc (Nat.le_refl _) o);have HT:=hhh (fun (o:Obj)=>hT.of ((B0.o o).mono hT.size));have HM:=hhh hm;have bel:∀ {W:World} {o:Obj},Below (w.alloc o).heap.size (w.alloc o) W -> Below w.heap.size w W:=fun {W o} b=>(B0.o o).trans (b.mono (by rw [show (w.alloc o).heap.size=w.heap.size + 1 by show (w.heap.push o).size=_;simp];omega))
 have Bel:=@hhh _ @bel;clear bel hT
 cases neg with
 | false =>
  clear hm;go_enter func214,ntmps214;go_wp2_with (fail);refine (aCr T mag HM.o _ (HT.o _)).mono ?_;rintro e w' ⟨rfl,b⟩;go_wp2;go_ret;exact ⟨rfl,Bel.o b⟩
 | true =>
  by_cases h:mag=18446744073709551615
  ·subst h
   have D:=hhh (aI7 T);clear hm HM;go_enter func214,ntmps214;go_wp2;go_ret;exact ⟨by rw [D.o];rfl,B0.o _⟩
  ·have hw:IntKind.u64.wrap ((mag:Int) + 1)=((mag + 1:Nat):Int):=by rw [IntKind.wrap_u64];omega
   obtain ⟨m1,hm1⟩:∃ m1,m1=mag + 1:=⟨_,rfl⟩;rw [<- hm1] at hw;have H1:=hhh hm1;have h2:((mag:Int) == 18446744073709551615)=false:=by rw [bfn];omega
   have hlt:m1 < 18446744073709551616:=by omega
   have HL:=hhh hlt;have Hne:=hhh h;clear hm h hlt hm1;go_enter func214,ntmps214;go_wp2_with (fail);have HF:=aCr T m1 HL.o;obtain ⟨S,hS⟩:∃ S:ByteArray,S=⟨(digits T m1).toArray⟩:=⟨_,rfl⟩;have hS2:S.size <= 20:=by
    rw [hS];show (digits T m1).toArray.size <= 20;rw [List.size_toArray];exact iL T m1 HL.o
   rw [<- hS] at HF;have HS:=hhh hS;clear hS;refine (HF _ (HT.o _)).mono ?_;rintro e w' ⟨rfl,b⟩;clear HF;go_wp2;go_ret;refine ⟨Own.aZ ?_,Bel.o b⟩;rw [HS.o,dec,ifp rfl,ifn Hne.o,H1.o];rfl
end Fmt
end
end Go.Proofs.YtcjflgmcjfcodaaGreat
