/- Texts of the walk, joined. -/
import Derived.Test.YtcjflgmcjfcodaaGreatM15
import Derived.Test.YtcjflgmcjfcodaaGreatM17
set_option maxRecDepth 100000
set_option maxHeartbeats 8000000
namespace Go.Proofs.Tryz end Go.Proofs.Tryz
namespace Go.Proofs.YtcjflgmcjfcodaaGreat
open Go.Proofs.Tryz
section
open Go.RowKit
namespace Pip
def Hd.enc (h:Hd):List Value:=[.bool h.begun,.bool h.fin,.bool h.opened,.int .i64 (h.major:Int),.int .i64 (h.lack:Int),.int .u64 (h.v:Int),.int .i64 (h.e:Int)]
theorem aMl (v c:Nat) (hc:c < 256):bits .or .u64 (IntKind.u64.wrap ((v:Int) * 256)) (c:Int)=(((v * 256 + c) % 18446744073709551616:Nat):Int):=by
 have e:IntKind.u64.wrap ((v:Int) * 256)=(((v * 256) % 18446744073709551616:Nat):Int):=by rw [IntKind.wrap_u64];omega
 rw [e,bits_join .u64 64 (by decide) (fun n h0 h1=>by rw [IntKind.wrap_u64];omega) 8 _ _ (by omega) (by omega) (by omega) (by omega) (by omega) (by omega)];omega
section
variable (w:World) (b:Nat) (T:TypeId) (pre post:List Value)
theorem hA (n : Hd) (x : UInt8) (h : At.Is w b T pre n.enc post) (h0 : n.begun = false ∧ n.fin = false ∧ n.e = 0) (hx : x.toNat % 32 < 24) :
  Calls prog 185 #[.pointer (some ⟨b,pre.length,none⟩),.int .u8 (x.toNat:Int)] w fun e w'=>e = .returned (.tuple #[.bool (n.step x).2.1,.int .i64 ((n.step x).2.2:Int)]) /\
   At.Is w' b T pre (n.step x).1.enc post /\ At.aV b w w':=by
 have hlt:=UInt8.toNat_lt x;have HP:=hhh (show n.step x=(⟨true,true,n.opened,x.toNat / 32,n.lack,x.toNat % 32,0⟩,true,0) by unfold Hd.step;simp [hx,h0.1,h0.2.1,h0.2.2]);generalize n.step x=NS at HP |-;obtain ⟨begun,fin,opened,major,lack,v,er⟩:=n;obtain ⟨h1,h2,h3⟩:=h0;simp only at h1 h2 h3;subst h1 h2 h3;have c0:=h.cell0 _ rfl;have c1:=h.cell 1 _ rfl;have c3:=h.cell 3 _ rfl;have c5:=h.cell 5 _ rfl;have c6:=h.cell 6 _ rfl;have f0:=h.free pre.length;have f1:=h.free (pre.length + 1);have f3:=h.free (pre.length + 3);have f5:=h.free (pre.length + 5);have HI:=hhh h;have HM:=hhh (show ((x.toNat / 32:Nat):Int)=(x.toNat:Int) / 32 by omega);have HL:=hhh (show ((x.toNat % 32:Nat):Int)=(x.toNat:Int) % 32 by omega);have q1:(x.toNat:Int) % 32 < 24:=by omega
 clear h hx;go_enter func185,ntmps185;go_wp2;go_quiet (fail);go_wp2;go_ret2;have hIs:=((((HI.o.lG (.bool true) (nlb rfl)).set 3 (.int .i64 ((x.toNat:Int) / 32)) (nlb rfl)).set 5 (.int .u64 ((x.toNat:Int) % 32)) (nlb rfl)).set 1 (.bool true) (nlb rfl));have e:Hd.enc ⟨true,true,opened,x.toNat / 32,lack,x.toNat % 32,0⟩=[.bool true,.bool true,.bool opened,.int .i64 ((x.toNat:Int) / 32),.int .i64 (lack:Int),.int .u64 ((x.toNat:Int) % 32),.int .i64 0]:=by
  rw [<- HM.o,<- HL.o];rfl
 rw [HP.o];refine ⟨rfl,?_,?_⟩
 ·show At.Is _ b T pre (Hd.enc ⟨true,true,opened,x.toNat / 32,lack,x.toNat % 32,0⟩) post
  rw [e];exact hIs.drewN _
 ·exact ((((((((At.aV.refl b w).set _ _)).set _ _)).set _ _)).set _ _).drewN _
theorem hB (n : Hd) (x : UInt8) (h : At.Is w b T pre n.enc post) (h0 : n.begun = false ∧ n.fin = false ∧ n.e = 0) (hx : 24 ≤ x.toNat % 32) (hx2 : x.toNat % 32 < 28) :
  Calls prog 185 #[.pointer (some ⟨b,pre.length,none⟩),.int .u8 (x.toNat:Int)] w fun e w'=>e = .returned (.tuple #[.bool (n.step x).2.1,.int .i64 ((n.step x).2.2:Int)]) /\
   At.Is w' b T pre (n.step x).1.enc post /\ At.aV b w w':=by
 have hlt:=UInt8.toNat_lt x;have HP0:n.step x=(⟨true,false,n.opened,x.toNat / 32,2 ^ (x.toNat % 32 - 24),n.v,0⟩,false,0):=by unfold Hd.step;rw [ifn (by simp [h0.2.2]),ifn (by simp [h0.2.1]),ifn (by simp [h0.1]),ifn (by omega),ifp hx2];simp [h0.2.1,h0.2.2]
 generalize n.step x=NS at HP0 |-;obtain ⟨begun,fin,opened,major,lack,v,er⟩:=n;obtain ⟨h1,h2,h3⟩:=h0;simp only at h1 h2 h3;subst h1 h2 h3;have c0:=h.cell0 _ rfl;have c1:=h.cell 1 _ rfl;have c3:=h.cell 3 _ rfl;have c4:=h.cell 4 _ rfl;have c6:=h.cell 6 _ rfl;have f0:=h.free pre.length;have f3:=h.free (pre.length + 3);have f4:=h.free (pre.length + 4);have HI:=hhh h;have HM:=hhh (show ((x.toNat / 32:Nat):Int)=(x.toNat:Int) / 32 by omega);clear h;rcases (show x.toNat % 32=24 \/ x.toNat % 32=25 \/ x.toNat % 32=26 \/ x.toNat % 32=27 by omega) with hk | hk | hk | hk
 all_goals
  rw [hk] at HP0;have HP:=hhh HP0;have q1:∀ k:Nat,x.toNat % 32=k -> (x.toNat:Int) % 32=(k:Int):=fun k e=>by omega
  replace q1:=q1 _ hk;simp only [Int.cast_ofNat_Int] at q1;have q0:bits .and .u8 (x.toNat:Int) 31=(x.toNat:Int) % 32:=bits_mask .u8 8 (by decide) wraps_u8 5 (by decide) (x.toNat:Int) (by omega) (by omega);rw [q1] at q0;clear hx hx2 HP0 hk;go_enter func185,ntmps185;go_wp2;go_quiet (fail);go_wp2;go_ret2;rw [HP.o];simp only [Hd.enc,HM.o];exact ⟨rfl,(((HI.o.lG (.bool true) (nlb rfl)).set 3 (.int .i64 ((x.toNat:Int) / 32)) (nlb rfl)).set 4 (.int .i64 _) (nlb rfl)).drewN _,((((((At.aV.refl b w).set _ _)).set _ _)).set _ _).drewN _⟩
theorem hC (n : Hd) (x : UInt8) (h : At.Is w b T pre n.enc post) (h0 : n.begun = false ∧ n.fin = false ∧ n.e = 0) (hx : x.toNat % 32 = 31) :
  Calls prog 185 #[.pointer (some ⟨b,pre.length,none⟩),.int .u8 (x.toNat:Int)] w fun e w'=>e = .returned (.tuple #[.bool (n.step x).2.1,.int .i64 ((n.step x).2.2:Int)]) /\
   At.Is w' b T pre (n.step x).1.enc post /\ At.aV b w w':=by
 have hlt:=UInt8.toNat_lt x;have HP:=hhh (show n.step x=(⟨true,true,true,x.toNat / 32,n.lack,n.v,0⟩,true,0) by unfold Hd.step;simp [hx,h0.1,h0.2.1,h0.2.2]);generalize n.step x=NS at HP |-;obtain ⟨begun,fin,opened,major,lack,v,er⟩:=n;obtain ⟨h1,h2,h3⟩:=h0;simp only at h1 h2 h3;subst h1 h2 h3;have c0:=h.cell0 _ rfl;have c1:=h.cell 1 _ rfl;have c2:=h.cell 2 _ rfl;have c3:=h.cell 3 _ rfl;have c6:=h.cell 6 _ rfl;have f0:=h.free pre.length;have f1:=h.free (pre.length + 1);have f2:=h.free (pre.length + 2);have f3:=h.free (pre.length + 3);have HI:=hhh h;have HM:=hhh (show ((x.toNat / 32:Nat):Int)=(x.toNat:Int) / 32 by omega);have q1:(24:Int) <= (x.toNat:Int) % 32:=by omega
 have q2:(28:Int) <= (x.toNat:Int) % 32:=by omega
 have q3:((x.toNat:Int) % 32 == 31)=true:=by rw [beq_iff_eq];omega
 clear h hx;go_enter func185,ntmps185;go_wp2;go_quiet (fail);go_wp2;go_ret2;rw [HP.o];simp only [Hd.enc,HM.o];exact ⟨rfl,((((HI.o.lG (.bool true) (nlb rfl)).set 3 (.int .i64 ((x.toNat:Int) / 32)) (nlb rfl)).set 2 (.bool true) (nlb rfl)).set 1 (.bool true) (nlb rfl)).drewN _,((((((((At.aV.refl b w).set _ _)).set _ _)).set _ _)).set _ _).drewN _⟩
theorem hD (n : Hd) (x : UInt8) (h : At.Is w b T pre n.enc post) (h0 : n.begun = false ∧ n.fin = false ∧ n.e = 0) (hx : 28 ≤ x.toNat % 32) (hx2 : x.toNat % 32 < 31) :
  Calls prog 185 #[.pointer (some ⟨b,pre.length,none⟩),.int .u8 (x.toNat:Int)] w fun e w'=>e = .returned (.tuple #[.bool (n.step x).2.1,.int .i64 ((n.step x).2.2:Int)]) /\
   At.Is w' b T pre (n.step x).1.enc post /\ At.aV b w w':=by
 have hlt:=UInt8.toNat_lt x;have HP:=hhh (show n.step x=(⟨true,false,n.opened,x.toNat / 32,n.lack,n.v,2⟩,false,2) by unfold Hd.step;rw [ifn (by simp [h0.2.2]),ifn (by simp [h0.2.1]),ifn (by simp [h0.1]),ifn (by omega),ifn (by omega),ifn (by omega)];simp [h0.2.1]);generalize n.step x=NS at HP |-;obtain ⟨begun,fin,opened,major,lack,v,er⟩:=n;obtain ⟨h1,h2,h3⟩:=h0;simp only at h1 h2 h3;subst h1 h2 h3;have c0:=h.cell0 _ rfl;have c1:=h.cell 1 _ rfl;have c3:=h.cell 3 _ rfl;have c6:=h.cell 6 _ rfl;have f0:=h.free pre.length;have f3:=h.free (pre.length + 3);have f6:=h.free (pre.length + 6);have HI:=hhh h;have HM:=hhh (show ((x.toNat / 32:Nat):Int)=(x.toNat:Int) / 32 by omega);have q1:(24:Int) <= (x.toNat:Int) % 32:=by omega
 have q2:(28:Int) <= (x.toNat:Int) % 32:=by omega
 have q3:((x.toNat:Int) % 32 == 31)=false:=by rw [bfn];omega
 clear h hx hx2;go_enter func185,ntmps185;go_wp2;go_quiet (fail);go_wp2;go_ret2;rw [HP.o];simp only [Hd.enc,HM.o];exact ⟨rfl,(((HI.o.lG (.bool true) (nlb rfl)).set 3 (.int .i64 ((x.toNat:Int) / 32)) (nlb rfl)).set 6 (.int .i64 2) (nlb rfl)).drewN _,((((((At.aV.refl b w).set _ _)).set _ _)).set _ _).drewN _⟩
theorem hE (n : Hd) (x : UInt8) (h : At.Is w b T pre n.enc post) (h0 : n.begun = true ∧ n.fin = false ∧ n.e = 0) (hp : 0 < n.lack) (hl8 : n.lack ≤ 8) :
  Calls prog 185 #[.pointer (some ⟨b,pre.length,none⟩),.int .u8 (x.toNat:Int)] w fun e w'=>e = .returned (.tuple #[.bool (n.step x).2.1,.int .i64 ((n.step x).2.2:Int)]) /\
   At.Is w' b T pre (n.step x).1.enc post /\ At.aV b w w':=by
 have hlt:=UInt8.toNat_lt x;have HP:=hhh (show n.step x=(⟨true,decide (n.lack=1),n.opened,n.major,n.lack - 1,(n.v * 256 + x.toNat) % 18446744073709551616,0⟩,decide (n.lack=1),0) by unfold Hd.step;simp [h0.1,h0.2.1,h0.2.2]);generalize n.step x=NS at HP |-;obtain ⟨begun,fin,opened,major,lack,v,er⟩:=n;obtain ⟨h1,h2,h3⟩:=h0;simp only at h1 h2 h3;subst h1 h2 h3;simp only at hp hl8;have c0:=h.cell0 _ rfl;have c1:=h.cell 1 _ rfl;have c4:=h.cell 4 _ rfl;have c5:=h.cell 5 _ rfl;have c6:=h.cell 6 _ rfl;have f1:=h.free (pre.length + 1);have f4:=h.free (pre.length + 4);have f5:=h.free (pre.length + 5);have HI:=hhh h;have HO:=hhh (aMl v x.toNat hlt);have hw:wrap64 ((lack:Int) - 1)=((lack - 1:Nat):Int):=by unfold wrap64;omega
 have HZ:=hhh (show ((((lack - 1:Nat):Int)) == 0)=decide (lack=1) by rw [Bool.eq_iff_iff,beq_iff_eq,decide_eq_true_iff];omega);clear h hp hl8;go_enter func185,ntmps185;go_wp2;go_ret2;rw [HP.o];have e:Hd.enc ⟨true,decide (lack=1),opened,major,lack - 1,(v * 256 + x.toNat) % 18446744073709551616,0⟩=[.bool true,.bool ((((lack - 1:Nat):Int)) == 0),.bool opened,.int .i64 (major:Int),.int .i64 ((lack - 1:Nat):Int),.int .u64 (bits .or .u64 (IntKind.u64.wrap ((v:Int) * 256)) (x.toNat:Int)),.int .i64 0]:=by
  rw [HZ.o,HO.o];rfl
 refine ⟨?_,?_,?_⟩
 ·show _=Ending.returned (.tuple #[.bool (decide (lack=1)),.int .i64 0])
  rw [<- HZ.o];rfl
 ·show At.Is _ b T pre (Hd.enc ⟨true,decide (lack=1),opened,major,lack - 1,(v * 256 + x.toNat) % 18446744073709551616,0⟩) post
  rw [e];exact ((HI.o.set 5 (.int .u64 (bits .or .u64 (IntKind.u64.wrap ((v:Int) * 256)) (x.toNat:Int))) (nlb rfl)).set 4 (.int .i64 ((lack - 1:Nat):Int)) (nlb rfl)).set 1 (.bool ((((lack - 1:Nat):Int)) == 0)) (nlb rfl)
 ·exact ((((((At.aV.refl b w).set _ _)).set _ _)).set _ _)
theorem hF (n : Hd) (x : UInt8) (h : At.Is w b T pre n.enc post) (h0 : n.fin = true ∧ n.e = 0) :
  Calls prog 185 #[.pointer (some ⟨b,pre.length,none⟩),.int .u8 (x.toNat:Int)] w fun e w'=>e = .returned (.tuple #[.bool (n.step x).2.1,.int .i64 ((n.step x).2.2:Int)]) /\
   At.Is w' b T pre (n.step x).1.enc post /\ At.aV b w w':=by
 have hlt:=UInt8.toNat_lt x;have HP:=hhh (show n.step x=(⟨n.begun,true,n.opened,n.major,n.lack,n.v,14⟩,false,14) by unfold Hd.step;simp [h0.1,h0.2]);generalize n.step x=NS at HP |-;obtain ⟨begun,fin,opened,major,lack,v,er⟩:=n;obtain ⟨h1,h2⟩:=h0;simp only at h1 h2;subst h1 h2;have c1:=h.cell 1 _ rfl;have c6:=h.cell 6 _ rfl;have f6:=h.free (pre.length + 6);have HI:=hhh h;clear h;go_enter func185,ntmps185;go_wp2;go_quiet (fail);go_wp2;go_ret2;rw [HP.o];exact ⟨rfl,(HI.o.set 6 (.int .i64 14) (nlb rfl)).drewN _,((At.aV.refl b w).set _ _).drewN _⟩
theorem hG (n : Hd) (x : UInt8) (h : At.Is w b T pre n.enc post) (h0 : n.e ≠ 0) :
  Calls prog 185 #[.pointer (some ⟨b,pre.length,none⟩),.int .u8 (x.toNat:Int)] w fun e w'=>e = .returned (.tuple #[.bool (n.step x).2.1,.int .i64 ((n.step x).2.2:Int)]) /\
   At.Is w' b T pre (n.step x).1.enc post /\ At.aV b w w':=by
 have hlt:=UInt8.toNat_lt x;have HP:=hhh (show n.step x=(n,false,n.e) by unfold Hd.step;simp [h0]);generalize n.step x=NS at HP |-;obtain ⟨begun,fin,opened,major,lack,v,er⟩:=n;simp only at h0;have c6:=h.cell 6 _ rfl;have HI:=hhh h;have hne:((er:Int) != 0)=true:=by rw [bne_iff_ne];omega
 clear h h0;go_enter func185,ntmps185;go_wp2;go_quiet (fail);go_wp2;go_ret2;rw [HP.o];exact ⟨rfl,HI.o.drewN _,(At.aV.refl b w).drewN _⟩
theorem aFq (n : Hd) (f : n.Fits) (x : UInt8) (h : At.Is w b T pre n.enc post) :
  Calls prog 185 #[.pointer (some ⟨b,pre.length,none⟩),.int .u8 (x.toNat:Int)] w fun e w'=>e = .returned (.tuple #[.bool (n.step x).2.1,.int .i64 ((n.step x).2.2:Int)]) /\
   At.Is w' b T pre (n.step x).1.enc post /\ At.aV b w w':=by
 by_cases he:n.e=0
 ·cases hf:n.fin with
  | true=>exact hF w b T pre post n x h ⟨hf,he⟩
  | false =>
   cases hb:n.begun with
   | true=>exact hE w b T pre post n x h ⟨hb,hf,he⟩ (f.pos hb hf he) f.lack
   | false =>
    rcases (show x.toNat % 32 < 24 \/ (24 <= x.toNat % 32 /\ x.toNat % 32 < 28) \/ x.toNat % 32=31 \/ (28 <= x.toNat % 32 /\ x.toNat % 32 < 31) by omega) with hx | ⟨hx,hx2⟩ | hx | ⟨hx,hx2⟩
    ·exact hA w b T pre post n x h ⟨hb,hf,he⟩ hx
    ·exact hB w b T pre post n x h ⟨hb,hf,he⟩ hx hx2
    ·exact hC w b T pre post n x h ⟨hb,hf,he⟩ hx
    ·exact hD w b T pre post n x h ⟨hb,hf,he⟩ hx hx2
 ·exact hG w b T pre post n x h he
end
end Pip
end
end Go.Proofs.YtcjflgmcjfcodaaGreat
