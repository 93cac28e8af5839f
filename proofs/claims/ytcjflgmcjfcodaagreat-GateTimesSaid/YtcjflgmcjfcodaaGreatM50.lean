/- Texts of the walk, joined. -/
import Derived.Test.YtcjflgmcjfcodaaGreatM39
import Derived.Deep.RegionHeld3
set_option maxRecDepth 100000
set_option maxHeartbeats 8000000
namespace Go.Proofs.Tryz end Go.Proofs.Tryz
namespace Go.Proofs.YtcjflgmcjfcodaaGreat
open Go.Proofs.Tryz
section
open Go.RowKit
namespace Pip
theorem aHf (s:Setup) (hr:right s=true) (w:World):Calls prog 6 #[s.val] w fun e w'=>e = .returned (.tuple #[.string ⟨(aQ s).toArray⟩,.bool true]) /\ Below w.heap.size w w':=by
 have HR:=hhh (fun u=>nM s u);have hb:=(fT s).1 hr;rw [hr] at HR;obtain ⟨f,t,d,g,l⟩:=s;simp only at hb;obtain ⟨f,rfl⟩:∃ n:Nat,f=(n:Int):=⟨f.toNat,by omega⟩;obtain ⟨t,rfl⟩:∃ n:Nat,t=(n:Int):=⟨t.toNat,by omega⟩;obtain ⟨d,rfl⟩:∃ n:Nat,d=(n:Int):=⟨d.toNat,by omega⟩;obtain ⟨g,rfl⟩:∃ n:Nat,g=(n:Int):=⟨g.toNat,by omega⟩;obtain ⟨l,rfl⟩:∃ n:Nat,l=(n:Int):=⟨l.toNat,by omega⟩;unfold Setup.val at HR |-;simp only at HR |-;have T0:=hhh ((Own.aA.refl (Own.Has.nil w)).aP w.heap.size rfl 28 [.int .i64 f,.int .i64 t,.int .i64 d,.int .i64 g,.int .i64 l]);have HB2:=hhh (fun u=>gF g u);have HB1:=hhh (fun u=>eM l u);have hcat:(((⟨#[84,82]⟩:ByteArray) ++ ⟨([byteOf f,byteOf t,byteOf d]:List UInt8).toArray⟩) ++ ⟨(big g 2).toArray⟩) ++ ⟨(big l 1).toArray⟩=⟨(aQ ⟨f,t,d,g,l⟩).toArray⟩:=by
  rw [show (⟨#[84,82]⟩:ByteArray)=⟨([84,82]:List UInt8).toArray⟩ from rfl,jP,jP,jP,aIm,aG1];rfl
 have hcvH:∀ (k:Nat) (V:World),Own.Has V [Own.row k 5 [.int .u8 (f:Int),.int .u8 (t:Int),.int .u8 (d:Int)]] -> (convert 55 9 (.slice (some ⟨k,0,none⟩) 3 3)).run prog V = .ok (.string ⟨([byteOf f,byteOf t,byteOf d]:List UInt8).toArray⟩) V:=fun k V h=>by
  have s:=Own.Slc.row (e:=5) (xs:=u8s [byteOf f,byteOf t,byteOf d]) k [] [] (by rw [fR];exact (by decide:3 <= maxLen));rw [fR] at s;simp only [List.length_nil,Nat.add_zero,List.nil_append,List.append_nil] at s;have e1:u8s [byteOf f,byteOf t,byteOf d]=[.int .u8 (f:Int),.int .u8 (t:Int),.int .u8 (d:Int)]:=by
   simp only [u8s,List.map_cons,List.map_nil];rw [dY (by omega) (by omega),dY (by omega) (by omega),dY (by omega) (by omega)]
  rw [e1] at s;have s2:Own.Slc 5 (List.map (fun b:UInt8=>Value.int .u8 (b.toNat:Int)) [byteOf f,byteOf t,byteOf d]) (.slice (some ⟨k,0,none⟩) 3 3) [Own.row k 5 [.int .u8 (f:Int),.int .u8 (t:Int),.int .u8 (d:Int)]]:=by
   have e2:List.map (fun b:UInt8=>Value.int .u8 (b.toNat:Int)) [byteOf f,byteOf t,byteOf d]=[.int .u8 (f:Int),.int .u8 (t:Int),.int .u8 (d:Int)]:=e1;rw [e2];exact s
  exact Own.Slc.jG [byteOf f,byteOf t,byteOf d] 55 9 underlying55 underlying5 underlying9 s2 h
 generalize aQ ⟨f,t,d,g,l⟩=HBy at hcat |-;obtain ⟨S3,hS3⟩:∃ S:ByteArray,S=⟨([byteOf f,byteOf t,byteOf d]:List UInt8).toArray⟩:=⟨_,rfl⟩;obtain ⟨X2,hX2⟩:∃ S:ByteArray,S=⟨(big g 2).toArray⟩:=⟨_,rfl⟩;obtain ⟨X1,hX1⟩:∃ S:ByteArray,S=⟨(big l 1).toArray⟩:=⟨_,rfl⟩;have z3:S3.size=3:=by rw [hS3];rfl
 have z2:X2.size=2:=by rw [hX2,aIm];rfl
 have z1:X1.size=1:=by rw [hX1,aG1];rfl
 rw [<- hS3] at hcvH hcat;have HCV:=hhh hcvH;rw [<- hX2] at HB2 hcat;rw [<- hX1] at HB1 hcat;have Hcat:=hhh hcat;obtain ⟨pick,hp2,hp1⟩:∃ pick:Int -> ByteArray,pick 2=X2 /\ pick 1=X1:=⟨fun n=>if n=2 then X2 else X1,ifp rfl,ifn (by decide)⟩;have i22:=hhh hp2;have i12:=hhh hp1;clear hp2 hp1
 have HB:=hhh (fun (v n:Int) (h:(v=(g:Int) /\ n=2) \/ (v=(l:Int) /\ n=1)) u=>(show Calls prog 20 #[.int .u64 v,.int .i64 n] u fun e w'=>e = .returned (.string (pick n)) /\ Below u.heap.size u w' from by
  rcases h with ⟨rfl,rfl⟩ | ⟨rfl,rfl⟩
  ·rw [i22.o];exact HB2.o u
  ·rw [i12.o];exact HB1.o u))
 have uf:IntKind.u8.wrap (f:Int)=(f:Int):=by rw [IntKind.wrap_u8];omega
 have ut:IntKind.u8.wrap (t:Int)=(t:Int):=by rw [IntKind.wrap_u8];omega
 have ud:IntKind.u8.wrap (d:Int)=(d:Int):=by rw [IntKind.wrap_u8];omega
 have ug:IntKind.u64.wrap (g:Int)=(g:Int):=by rw [IntKind.wrap_u64];omega
 have ul:IntKind.u64.wrap (l:Int)=(l:Int):=by rw [IntKind.wrap_u64];omega
 clear hr hb hcat hS3 hX2 hX1 hcvH HB1 HB2;go_enter func6,ntmps6;go_wp2_with (fail);refine (HR.o _).mono ?_;rintro e w1 ⟨rfl,b1⟩;have T1:=hhh (T0.o.trans (Own.aA.aJ T0.o.has b1));have c0:=T1.o.has.cell w.heap.size _ _ mcs 0 _ rfl;have c1:=T1.o.has.cell w.heap.size _ _ mcs 1 _ rfl;have c2:=T1.o.has.cell w.heap.size _ _ mcs 2 _ rfl;have c3:=T1.o.has.cell w.heap.size _ _ mcs 3 _ rfl;have c4:=T1.o.has.cell w.heap.size _ _ mcs 4 _ rfl
 have HKeep:=hhh (fun (u:World) (tt:Own.aA [] [Own.row w.heap.size 28 [.int .i64 (f:Int),.int .i64 (t:Int),.int .i64 (d:Int),.int .i64 (g:Int),.int .i64 (l:Int)]] w u) =>
  (show Own.aA [] [Own.row w.heap.size 28 [.int .i64 (f:Int),.int .i64 (t:Int),.int .i64 (d:Int),.int .i64 (g:Int),.int .i64 (l:Int)]] w u /\ u.cell? ⟨w.heap.size,0,none⟩=some (.int .i64 (f:Int)) /\ u.cell? ⟨w.heap.size,1,none⟩=some (.int .i64 (t:Int)) /\ u.cell? ⟨w.heap.size,2,none⟩=some (.int .i64 (d:Int)) /\ u.cell? ⟨w.heap.size,3,none⟩=some (.int .i64 (g:Int)) /\ u.cell? ⟨w.heap.size,4,none⟩=some (.int .i64 (l:Int)) from
   ⟨tt,tt.has.cell w.heap.size _ _ mcs 0 _ rfl,tt.has.cell w.heap.size _ _ mcs 1 _ rfl,tt.has.cell w.heap.size _ _ mcs 2 _ rfl,tt.has.cell w.heap.size _ _ mcs 3 _ rfl,tt.has.cell w.heap.size _ _ mcs 4 _ rfl⟩))
 have HasA:=hhh (fun (u W:World) (b:Below (u.alloc (.cells #[.int .u8 (f:Int),.int .u8 (t:Int),.int .u8 (d:Int)] 5)).heap.size (u.alloc (.cells #[.int .u8 (f:Int),.int .u8 (t:Int),.int .u8 (d:Int)] 5)) W) =>
  (((Own.aA.refl (Own.Has.nil u)).aP u.heap.size rfl 5 [.int .u8 (f:Int),.int .u8 (t:Int),.int .u8 (d:Int)]).has.below b))
 have HasAD:=hhh (fun (u W:World) (b:Below (u.alloc (.cells #[.int .u8 (f:Int),.int .u8 (t:Int),.int .u8 (d:Int)] 5)).drew.heap.size (u.alloc (.cells #[.int .u8 (f:Int),.int .u8 (t:Int),.int .u8 (d:Int)] 5)).drew W) =>
  (((Own.aA.refl (Own.Has.nil u)).aP u.heap.size rfl 5 [.int .u8 (f:Int),.int .u8 (t:Int),.int .u8 (d:Int)]).drew.has.below b))
 have HFin:=hhh (fun (u:World) (tt:Own.aA [] [Own.row w.heap.size 28 [.int .i64 (f:Int),.int .i64 (t:Int),.int .i64 (d:Int),.int .i64 (g:Int),.int .i64 (l:Int)]] w u /\ u.cell? ⟨w.heap.size,0,none⟩=some (.int .i64 (f:Int)) /\ u.cell? ⟨w.heap.size,1,none⟩=some (.int .i64 (t:Int)) /\ u.cell? ⟨w.heap.size,2,none⟩=some (.int .i64 (d:Int)) /\ u.cell? ⟨w.heap.size,3,none⟩=some (.int .i64 (g:Int)) /\ u.cell? ⟨w.heap.size,4,none⟩=some (.int .i64 (l:Int)))=>tt.1.below (B:=w.heap.size) (fun x hx=>by cases hx) (Nat.le_refl _));have HLit:=hhh (fun (u:World) (o:Obj) (tt:Own.aA [] [Own.row w.heap.size 28 [.int .i64 (f:Int),.int .i64 (t:Int),.int .i64 (d:Int),.int .i64 (g:Int),.int .i64 (l:Int)]] w u /\ u.cell? ⟨w.heap.size,0,none⟩=some (.int .i64 (f:Int)) /\ u.cell? ⟨w.heap.size,1,none⟩=some (.int .i64 (t:Int)) /\ u.cell? ⟨w.heap.size,2,none⟩=some (.int .i64 (d:Int)) /\ u.cell? ⟨w.heap.size,3,none⟩=some (.int .i64 (g:Int)) /\ u.cell? ⟨w.heap.size,4,none⟩=some (.int .i64 (l:Int)))=>HKeep.o _ (tt.1.aD o));have HLitD:=hhh (fun (u:World) (o:Obj) (tt:Own.aA [] [Own.row w.heap.size 28 [.int .i64 (f:Int),.int .i64 (t:Int),.int .i64 (d:Int),.int .i64 (g:Int),.int .i64 (l:Int)]] w u /\ u.cell? ⟨w.heap.size,0,none⟩=some (.int .i64 (f:Int)) /\ u.cell? ⟨w.heap.size,1,none⟩=some (.int .i64 (t:Int)) /\ u.cell? ⟨w.heap.size,2,none⟩=some (.int .i64 (d:Int)) /\ u.cell? ⟨w.heap.size,3,none⟩=some (.int .i64 (g:Int)) /\ u.cell? ⟨w.heap.size,4,none⟩=some (.int .i64 (l:Int)))=>HKeep.o _ (tt.1.aD o).drew);have HStep:=hhh (fun (u v:World) (tt:Own.aA [] [Own.row w.heap.size 28 [.int .i64 (f:Int),.int .i64 (t:Int),.int .i64 (d:Int),.int .i64 (g:Int),.int .i64 (l:Int)]] w u /\ u.cell? ⟨w.heap.size,0,none⟩=some (.int .i64 (f:Int)) /\ u.cell? ⟨w.heap.size,1,none⟩=some (.int .i64 (t:Int)) /\ u.cell? ⟨w.heap.size,2,none⟩=some (.int .i64 (d:Int)) /\ u.cell? ⟨w.heap.size,3,none⟩=some (.int .i64 (g:Int)) /\ u.cell? ⟨w.heap.size,4,none⟩=some (.int .i64 (l:Int))) (b:Below u.heap.size u v)=>HKeep.o _ (tt.1.trans (Own.aA.aJ tt.1.has b)))
 have hcv1:=fun u:World=>HCV.o _ _ ((Own.aA.refl (Own.Has.nil u)).aP u.heap.size rfl 5 [.int .u8 (f:Int),.int .u8 (t:Int),.int .u8 (d:Int)]).drew.has
 have hcv0:=fun u:World=>HCV.o _ _ ((Own.aA.refl (Own.Has.nil u)).aP u.heap.size rfl 5 [.int .u8 (f:Int),.int .u8 (t:Int),.int .u8 (d:Int)]).has
 clear b1;go_wp2_with (fail);go_region_held (fun u=>Own.aA [] [Own.row w.heap.size 28 [.int .i64 (f:Int),.int .i64 (t:Int),.int .i64 (d:Int),.int .i64 (g:Int),.int .i64 (l:Int)]] w u /\ u.cell? ⟨w.heap.size,0,none⟩=some (.int .i64 (f:Int)) /\ u.cell? ⟨w.heap.size,1,none⟩=some (.int .i64 (t:Int)) /\ u.cell? ⟨w.heap.size,2,none⟩=some (.int .i64 (d:Int)) /\ u.cell? ⟨w.heap.size,3,none⟩=some (.int .i64 (g:Int)) /\ u.cell? ⟨w.heap.size,4,none⟩=some (.int .i64 (l:Int)))
  (first | assumption | exact HKeep.o _ T1.o.drew | exact HKeep.o _ (T1.o.aD _).drew | exact HLit.o _ _ (by assumption) | exact HLitD.o _ _ (by assumption) | exact HStep.o _ _ (by assumption) (by assumption) | (trace_state;fail))
  (first | (go_at_call 20;refine (HB.o _ _ (by first | exact Or.inl ⟨rfl,rfl⟩ | exact Or.inr ⟨rfl,rfl⟩) _).mono ?_;rintro e W ⟨rfl,b⟩;(first | rw [i22.o] | rw [i12.o]);(first | (have hcvW:=HCV.o _ _ (HasAD.o _ _ b);have hHas:=hhh (HasAD.o _ _ b)) | (have hcvW:=HCV.o _ _ (HasA.o _ _ b);have hHas:=hhh (HasA.o _ _ b)) | (have hcvW:=HCV.o _ _ (hHas.o.below b)) | skip)))
 all_goals
  go_wp2;go_ret2;exact ⟨by rw [<- Hcat.o];rfl,HFin.o _ (by assumption)⟩
end Pip
end
end Go.Proofs.YtcjflgmcjfcodaaGreat
