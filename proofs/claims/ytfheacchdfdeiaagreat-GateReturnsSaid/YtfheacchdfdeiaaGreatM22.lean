/- Texts of the walk, joined. -/
import Derived.Test.YtfheacchdfdeiaaGreatM15
import Derived.Test.YtfheacchdfdeiaaGreatM21
set_option maxRecDepth 100000
set_option maxHeartbeats 8000000
namespace Go.Proofs.YtfheacchdfdeiaaGreat
section
open Go.RowKit
open Json (Part)
namespace Pip
def Jin.Left (p:Jin) (t:Tok):Prop :=
 ¬(t.kind=58 /\ p.next=4) /\ ¬(t.kind=44 /\ p.next=5) /\
 ¬((t.kind=93 /\ p.maps.getLast? = some false /\ (p.next=1 \/ p.next=5)) \/ (t.kind=125 /\ p.maps.getLast? = some true /\ (p.next=2 \/ p.next=5))) /\ ¬(t.kind=115 /\ (p.next=3 \/ p.next=2))
theorem Jin.Left.token {p:Jin} {t:Tok} (h:p.Left t):p.token t=if p.next ≠ 0 /\ p.next ≠ 1 then (⟨p.l,p.depth,p.maps,p.next,2⟩,none) else p.value t:=by
 unfold Jin.token;rw [if_neg h.1,if_neg h.2.1,if_neg h.2.2.1,if_neg h.2.2.2]
section
variable {p:Jin} {b:Nat} {h:Own.Heap} {w:World}
theorem aGc (hi : p.Is b h) (hw : Own.Has w h) (t : Tok) (hL : p.Left t) (hk : t.kind.toNat = 58) (hn : p.next ≠ 0 ∧ p.next ≠ 1) :
  Calls Tryz.prog 132 #[.pointer (some ⟨b,0,none⟩),t.val] w (bG (p.token t) b h w):=by
 have HP:=hhh (show p.token t=(⟨p.l,p.depth,p.maps,p.next,2⟩,none) by rw [hL.token,if_pos hn]);have t58:=yb t.kind 58 (by omega);have t44:=nb t.kind 44 (by omega);have t93:=nb t.kind 93 (by omega);have t125:=nb t.kind 125 (by omega);have t115:=nb t.kind 115 (by omega);have q4:((p.next:Int) == 4)=false:=by
  rw [beq_eq_false_iff_ne];intro e';have e:p.next=4:=by omega
  exact hL.1 ⟨UInt8.toNat_inj.1 hk,e⟩
 obtain ⟨pv,sv,hb,a,c,hmm,rfl,hs,HI0⟩:=hi.opened;have HI:=hhh (HI0 p.depth p.next 2 p.maps _ _ hs);have HT:=hhh (fun o=>((Own.aA.refl hw).aD o));have HT1:=hhh (fun o=>(HT.o o).put 26 (.int .i64 2) _ rfl);have c24:=fun o=>(HT.o o).has.cell b _ _ mcs 24 _ rfl
 have c25:=fun o=>(HT.o o).has.cell b _ _ mcs 25 _ rfl
 have c26:=fun o=>(HT.o o).has.cell b _ _ mcs 26 _ rfl
 have f26:=fun o=>(HT.o o).has.free b _ _ mcs 26
 have hlt:=hw.bK;have hne:¬ b=w.heap.size:=by omega
 have hne':¬ w.heap.size=b:=by omega
 have qa:((p.next:Int) != 0)=true:=by rw [bne_iff_ne];omega
 have qb:((p.next:Int) != 1)=true:=by rw [bne_iff_ne];omega
 obtain ⟨k,tx,ng,mg⟩:=t;simp only at t58 t44 t93 t125 t115;generalize p.token _=PV at HP |-;clear hi hw hs HI0 hlt hk hL hn;simp only [Tok.val];go_enter Tryz.func132,Tryz.ntmps132;go_wp2;go_ret2;rw [HP.o];exact ⟨_,rfl,HI.o,HT1.o _⟩
theorem aGb (hi : p.Is b h) (hw : Own.Has w h) (t : Tok) (hL : p.Left t) (hk : t.kind.toNat = 44) (hn : p.next ≠ 0 ∧ p.next ≠ 1) :
  Calls Tryz.prog 132 #[.pointer (some ⟨b,0,none⟩),t.val] w (bG (p.token t) b h w):=by
 have HP:=hhh (show p.token t=(⟨p.l,p.depth,p.maps,p.next,2⟩,none) by rw [hL.token,if_pos hn]);have t58:=nb t.kind 58 (by omega);have t44:=yb t.kind 44 (by omega);have t93:=nb t.kind 93 (by omega);have t125:=nb t.kind 125 (by omega);have t115:=nb t.kind 115 (by omega);have q5:((p.next:Int) == 5)=false:=by
  rw [beq_eq_false_iff_ne];intro e';have e:p.next=5:=by omega
  exact hL.2.1 ⟨UInt8.toNat_inj.1 hk,e⟩
 obtain ⟨pv,sv,hb,a,c,hmm,rfl,hs,HI0⟩:=hi.opened;have HI:=hhh (HI0 p.depth p.next 2 p.maps _ _ hs);have HT:=hhh (fun o=>((Own.aA.refl hw).aD o));have HT1:=hhh (fun o=>(HT.o o).put 26 (.int .i64 2) _ rfl);have c24:=fun o=>(HT.o o).has.cell b _ _ mcs 24 _ rfl
 have c25:=fun o=>(HT.o o).has.cell b _ _ mcs 25 _ rfl
 have c26:=fun o=>(HT.o o).has.cell b _ _ mcs 26 _ rfl
 have f26:=fun o=>(HT.o o).has.free b _ _ mcs 26
 have hlt:=hw.bK;have hne:¬ b=w.heap.size:=by omega
 have hne':¬ w.heap.size=b:=by omega
 have qa:((p.next:Int) != 0)=true:=by rw [bne_iff_ne];omega
 have qb:((p.next:Int) != 1)=true:=by rw [bne_iff_ne];omega
 obtain ⟨k,tx,ng,mg⟩:=t;simp only at t58 t44 t93 t125 t115;generalize p.token _=PV at HP |-;clear hi hw hs HI0 hlt hk hL hn;simp only [Tok.val];go_enter Tryz.func132,Tryz.ntmps132;go_wp2;go_ret2;rw [HP.o];exact ⟨_,rfl,HI.o,HT1.o _⟩
theorem vZ (hi : p.Is b h) (hw : Own.Has w h) (t : Tok) (hL : p.Left t) (hk : t.kind.toNat = 93) (hm : p.maps = []) (hn : p.next ≠ 0 ∧ p.next ≠ 1) :
  Calls Tryz.prog 132 #[.pointer (some ⟨b,0,none⟩),t.val] w (bG (p.token t) b h w):=by
 have HP:=hhh (show p.token t=(⟨p.l,p.depth,p.maps,p.next,2⟩,none) by rw [hL.token,if_pos hn]);have t58:=nb t.kind 58 (by omega);have t44:=nb t.kind 44 (by omega);have t93:=yb t.kind 93 (by omega);have t125:=nb t.kind 125 (by omega);have t115:=nb t.kind 115 (by omega);obtain ⟨pv,sv,hb,a,c,hmm,rfl,hs,HI0⟩:=hi.opened;rw [show p.maps.length=0 by rw [hm];rfl] at hs hw |-;have HI:=hhh (HI0 p.depth p.next 2 p.maps _ _ hs);have HT:=hhh (fun o=>((Own.aA.refl hw).aD o));have HT1:=hhh (fun o=>(HT.o o).put 26 (.int .i64 2) _ rfl);have c24:=fun o=>(HT.o o).has.cell b _ _ mcs 24 _ rfl
 have c25:=fun o=>(HT.o o).has.cell b _ _ mcs 25 _ rfl
 have c26:=fun o=>(HT.o o).has.cell b _ _ mcs 26 _ rfl
 have f26:=fun o=>(HT.o o).has.free b _ _ mcs 26
 have hlt:=hw.bK;have hne:¬ b=w.heap.size:=by omega
 have hne':¬ w.heap.size=b:=by omega
 have qa:((p.next:Int) != 0)=true:=by rw [bne_iff_ne];omega
 have qb:((p.next:Int) != 1)=true:=by rw [bne_iff_ne];omega
 obtain ⟨k,tx,ng,mg⟩:=t;simp only at t58 t44 t93 t125 t115;generalize p.token _=PV at HP |-;clear hi hw hs HI0 hlt hk hL hn hm;simp only [Tok.val];go_enter Tryz.func132,Tryz.ntmps132;go_wp2;go_ret2;rw [HP.o];exact ⟨_,rfl,HI.o,HT1.o _⟩
theorem uC (hi : p.Is b h) (hw : Own.Has w h) (t : Tok) (hL : p.Left t) (hk : t.kind.toNat = 93) (L : List Bool) (h16 : L.length ≤ 16) (hm : p.maps = L ++ [true]) (hn : p.next ≠ 0 ∧ p.next ≠ 1) :
  Calls Tryz.prog 132 #[.pointer (some ⟨b,0,none⟩),t.val] w (bG (p.token t) b h w):=by
 have HP:=hhh (show p.token t=(⟨p.l,p.depth,p.maps,p.next,2⟩,none) by rw [hL.token,if_pos hn]);have t58:=nb t.kind 58 (by omega);have t44:=nb t.kind 44 (by omega);have t93:=yb t.kind 93 (by omega);have t125:=nb t.kind 125 (by omega);have t115:=nb t.kind 115 (by omega);obtain ⟨pv,sv,hb,a,c,hmm,rfl,hs,HI0⟩:=hi.opened;rw [show p.maps.length=L.length + 1 by rw [hm];simp] at hs hw |-;have hs2:=hs;rw [hm,List.map_append,List.map_cons,List.map_nil] at hs2;obtain ⟨mb,off,c',cl,e1,rfl,hcl,hlc,hcm,-⟩:=hs2.last;rw [List.length_map] at e1 hcl hlc;rw [e1] at hw hs |-;have HI:=hhh (HI0 p.depth p.next 2 p.maps _ _ hs);have HT:=hhh (fun o=>((Own.aA.refl hw).aD o));have HT1:=hhh (fun o=>(HT.o o).put 26 (.int .i64 2) _ rfl);have c24:=fun o=>(HT.o o).has.cell b _ _ mcs 24 _ rfl
 have c25:=fun o=>(HT.o o).has.cell b _ _ mcs 25 _ rfl
 have c26:=fun o=>(HT.o o).has.cell b _ _ mcs 26 _ rfl
 have f26:=fun o=>(HT.o o).has.free b _ _ mcs 26
 have cm:=fun o=>(HT.o o).has.cell mb _ _ (mcm _ (List.mem_append_right _ (List.mem_singleton.2 rfl))) _ _ hcl
 have hlt:=hw.bK;have hne:¬ b=w.heap.size:=by omega
 have hne':¬ w.heap.size=b:=by omega
 have qa:((p.next:Int) != 0)=true:=by rw [bne_iff_ne];omega
 have qb:((p.next:Int) != 1)=true:=by rw [bne_iff_ne];omega
 generalize hK:L.length=K at c24 cm hlc HT h16 HT1 HI |-;have hk1':(((K + 1:Nat):Int)) - 1=(K:Int):=by omega
 obtain ⟨k,tx,ng,mg⟩:=t;simp only at t58 t44 t93 t125 t115;generalize p.token _=PV at HP |-;clear hi hw hs HI0 hlt hk hL hn hs2 hm e1 hcl hK;simp only [Tok.val];go_enter Tryz.func132,Tryz.ntmps132;go_wp2;go_ret2;rw [HP.o];exact ⟨_,rfl,HI.o,HT1.o _⟩
theorem rC (hi : p.Is b h) (hw : Own.Has w h) (t : Tok) (hL : p.Left t) (hk : t.kind.toNat = 93) (L : List Bool) (h16 : L.length ≤ 16) (hm : p.maps = L ++ [false]) (hn : p.next ≠ 0 ∧ p.next ≠ 1) :
  Calls Tryz.prog 132 #[.pointer (some ⟨b,0,none⟩),t.val] w (bG (p.token t) b h w):=by
 have HP:=hhh (show p.token t=(⟨p.l,p.depth,p.maps,p.next,2⟩,none) by rw [hL.token,if_pos hn]);have t58:=nb t.kind 58 (by omega);have t44:=nb t.kind 44 (by omega);have t93:=yb t.kind 93 (by omega);have t125:=nb t.kind 125 (by omega);have t115:=nb t.kind 115 (by omega);have q1:((p.next:Int) == 1)=false:=by
  rw [beq_eq_false_iff_ne];intro e';have e:p.next=1:=by omega
  exact hL.2.2.1 (.inl ⟨UInt8.toNat_inj.1 hk,by rw [hm];simp,.inl e⟩)
 have q5:((p.next:Int) == 5)=false:=by
  rw [beq_eq_false_iff_ne];intro e';have e:p.next=5:=by omega
  exact hL.2.2.1 (.inl ⟨UInt8.toNat_inj.1 hk,by rw [hm];simp,.inr e⟩)
 obtain ⟨pv,sv,hb,a,c,hmm,rfl,hs,HI0⟩:=hi.opened;rw [show p.maps.length=L.length + 1 by rw [hm];simp] at hs hw |-;have hs2:=hs;rw [hm,List.map_append,List.map_cons,List.map_nil] at hs2;obtain ⟨mb,off,c',cl,e1,rfl,hcl,hlc,hcm,-⟩:=hs2.last;rw [List.length_map] at e1 hcl hlc;rw [e1] at hw hs |-;have HI:=hhh (HI0 p.depth p.next 2 p.maps _ _ hs);have HT:=hhh (fun o=>((Own.aA.refl hw).aD o));have HT1:=hhh (fun o=>(HT.o o).put 26 (.int .i64 2) _ rfl);have c24:=fun o=>(HT.o o).has.cell b _ _ mcs 24 _ rfl
 have c25:=fun o=>(HT.o o).has.cell b _ _ mcs 25 _ rfl
 have c26:=fun o=>(HT.o o).has.cell b _ _ mcs 26 _ rfl
 have f26:=fun o=>(HT.o o).has.free b _ _ mcs 26
 have cm:=fun o=>(HT.o o).has.cell mb _ _ (mcm _ (List.mem_append_right _ (List.mem_singleton.2 rfl))) _ _ hcl
 have hlt:=hw.bK;have hne:¬ b=w.heap.size:=by omega
 have hne':¬ w.heap.size=b:=by omega
 have qa:((p.next:Int) != 0)=true:=by rw [bne_iff_ne];omega
 have qb:((p.next:Int) != 1)=true:=by rw [bne_iff_ne];omega
 generalize hK:L.length=K at c24 cm hlc HT h16 HT1 HI |-;have hk1':(((K + 1:Nat):Int)) - 1=(K:Int):=by omega
 obtain ⟨k,tx,ng,mg⟩:=t;simp only at t58 t44 t93 t125 t115;generalize p.token _=PV at HP |-;clear hi hw hs HI0 hlt hk hL hn hs2 hm e1 hcl hK;simp only [Tok.val];go_enter Tryz.func132,Tryz.ntmps132;go_wp2;go_ret2;rw [HP.o];exact ⟨_,rfl,HI.o,HT1.o _⟩
theorem tQ (hi : p.Is b h) (hw : Own.Has w h) (t : Tok) (hL : p.Left t) (hk : t.kind.toNat = 125) (hm : p.maps = []) (hn : p.next ≠ 0 ∧ p.next ≠ 1) :
  Calls Tryz.prog 132 #[.pointer (some ⟨b,0,none⟩),t.val] w (bG (p.token t) b h w):=by
 have HP:=hhh (show p.token t=(⟨p.l,p.depth,p.maps,p.next,2⟩,none) by rw [hL.token,if_pos hn]);have t58:=nb t.kind 58 (by omega);have t44:=nb t.kind 44 (by omega);have t93:=nb t.kind 93 (by omega);have t125:=yb t.kind 125 (by omega);have t115:=nb t.kind 115 (by omega);obtain ⟨pv,sv,hb,a,c,hmm,rfl,hs,HI0⟩:=hi.opened;rw [show p.maps.length=0 by rw [hm];rfl] at hs hw |-;have HI:=hhh (HI0 p.depth p.next 2 p.maps _ _ hs);have HT:=hhh (fun o=>((Own.aA.refl hw).aD o));have HT1:=hhh (fun o=>(HT.o o).put 26 (.int .i64 2) _ rfl);have c24:=fun o=>(HT.o o).has.cell b _ _ mcs 24 _ rfl
 have c25:=fun o=>(HT.o o).has.cell b _ _ mcs 25 _ rfl
 have c26:=fun o=>(HT.o o).has.cell b _ _ mcs 26 _ rfl
 have f26:=fun o=>(HT.o o).has.free b _ _ mcs 26
 have hlt:=hw.bK;have hne:¬ b=w.heap.size:=by omega
 have hne':¬ w.heap.size=b:=by omega
 have qa:((p.next:Int) != 0)=true:=by rw [bne_iff_ne];omega
 have qb:((p.next:Int) != 1)=true:=by rw [bne_iff_ne];omega
 obtain ⟨k,tx,ng,mg⟩:=t;simp only at t58 t44 t93 t125 t115;generalize p.token _=PV at HP |-;clear hi hw hs HI0 hlt hk hL hn hm;simp only [Tok.val];go_enter Tryz.func132,Tryz.ntmps132;go_wp2;go_ret2;rw [HP.o];exact ⟨_,rfl,HI.o,HT1.o _⟩
theorem oC (hi : p.Is b h) (hw : Own.Has w h) (t : Tok) (hL : p.Left t) (hk : t.kind.toNat = 125) (L : List Bool) (h16 : L.length ≤ 16) (hm : p.maps = L ++ [false]) (hn : p.next ≠ 0 ∧ p.next ≠ 1) :
  Calls Tryz.prog 132 #[.pointer (some ⟨b,0,none⟩),t.val] w (bG (p.token t) b h w):=by
 have HP:=hhh (show p.token t=(⟨p.l,p.depth,p.maps,p.next,2⟩,none) by rw [hL.token,if_pos hn]);have t58:=nb t.kind 58 (by omega);have t44:=nb t.kind 44 (by omega);have t93:=nb t.kind 93 (by omega);have t125:=yb t.kind 125 (by omega);have t115:=nb t.kind 115 (by omega);obtain ⟨pv,sv,hb,a,c,hmm,rfl,hs,HI0⟩:=hi.opened;rw [show p.maps.length=L.length + 1 by rw [hm];simp] at hs hw |-;have hs2:=hs;rw [hm,List.map_append,List.map_cons,List.map_nil] at hs2;obtain ⟨mb,off,c',cl,e1,rfl,hcl,hlc,hcm,-⟩:=hs2.last;rw [List.length_map] at e1 hcl hlc;rw [e1] at hw hs |-;have HI:=hhh (HI0 p.depth p.next 2 p.maps _ _ hs);have HT:=hhh (fun o=>((Own.aA.refl hw).aD o));have HT1:=hhh (fun o=>(HT.o o).put 26 (.int .i64 2) _ rfl);have c24:=fun o=>(HT.o o).has.cell b _ _ mcs 24 _ rfl
 have c25:=fun o=>(HT.o o).has.cell b _ _ mcs 25 _ rfl
 have c26:=fun o=>(HT.o o).has.cell b _ _ mcs 26 _ rfl
 have f26:=fun o=>(HT.o o).has.free b _ _ mcs 26
 have cm:=fun o=>(HT.o o).has.cell mb _ _ (mcm _ (List.mem_append_right _ (List.mem_singleton.2 rfl))) _ _ hcl
 have hlt:=hw.bK;have hne:¬ b=w.heap.size:=by omega
 have hne':¬ w.heap.size=b:=by omega
 have qa:((p.next:Int) != 0)=true:=by rw [bne_iff_ne];omega
 have qb:((p.next:Int) != 1)=true:=by rw [bne_iff_ne];omega
 generalize hK:L.length=K at c24 cm hlc HT h16 HT1 HI |-;have hk1':(((K + 1:Nat):Int)) - 1=(K:Int):=by omega
 obtain ⟨k,tx,ng,mg⟩:=t;simp only at t58 t44 t93 t125 t115;generalize p.token _=PV at HP |-;clear hi hw hs HI0 hlt hk hL hn hs2 hm e1 hcl hK;simp only [Tok.val];go_enter Tryz.func132,Tryz.ntmps132;go_wp2;go_ret2;rw [HP.o];exact ⟨_,rfl,HI.o,HT1.o _⟩
theorem qN (hi : p.Is b h) (hw : Own.Has w h) (t : Tok) (hL : p.Left t) (hk : t.kind.toNat = 125) (L : List Bool) (h16 : L.length ≤ 16) (hm : p.maps = L ++ [true]) (hn : p.next ≠ 0 ∧ p.next ≠ 1) :
  Calls Tryz.prog 132 #[.pointer (some ⟨b,0,none⟩),t.val] w (bG (p.token t) b h w):=by
 have HP:=hhh (show p.token t=(⟨p.l,p.depth,p.maps,p.next,2⟩,none) by rw [hL.token,if_pos hn]);have t58:=nb t.kind 58 (by omega);have t44:=nb t.kind 44 (by omega);have t93:=nb t.kind 93 (by omega);have t125:=yb t.kind 125 (by omega);have t115:=nb t.kind 115 (by omega);have q2:((p.next:Int) == 2)=false:=by
  rw [beq_eq_false_iff_ne];intro e';have e:p.next=2:=by omega
  exact hL.2.2.1 (.inr ⟨UInt8.toNat_inj.1 hk,by rw [hm];simp,.inl e⟩)
 have q5:((p.next:Int) == 5)=false:=by
  rw [beq_eq_false_iff_ne];intro e';have e:p.next=5:=by omega
  exact hL.2.2.1 (.inr ⟨UInt8.toNat_inj.1 hk,by rw [hm];simp,.inr e⟩)
 obtain ⟨pv,sv,hb,a,c,hmm,rfl,hs,HI0⟩:=hi.opened;rw [show p.maps.length=L.length + 1 by rw [hm];simp] at hs hw |-;have hs2:=hs;rw [hm,List.map_append,List.map_cons,List.map_nil] at hs2;obtain ⟨mb,off,c',cl,e1,rfl,hcl,hlc,hcm,-⟩:=hs2.last;rw [List.length_map] at e1 hcl hlc;rw [e1] at hw hs |-;have HI:=hhh (HI0 p.depth p.next 2 p.maps _ _ hs);have HT:=hhh (fun o=>((Own.aA.refl hw).aD o));have HT1:=hhh (fun o=>(HT.o o).put 26 (.int .i64 2) _ rfl);have c24:=fun o=>(HT.o o).has.cell b _ _ mcs 24 _ rfl
 have c25:=fun o=>(HT.o o).has.cell b _ _ mcs 25 _ rfl
 have c26:=fun o=>(HT.o o).has.cell b _ _ mcs 26 _ rfl
 have f26:=fun o=>(HT.o o).has.free b _ _ mcs 26
 have cm:=fun o=>(HT.o o).has.cell mb _ _ (mcm _ (List.mem_append_right _ (List.mem_singleton.2 rfl))) _ _ hcl
 have hlt:=hw.bK;have hne:¬ b=w.heap.size:=by omega
 have hne':¬ w.heap.size=b:=by omega
 have qa:((p.next:Int) != 0)=true:=by rw [bne_iff_ne];omega
 have qb:((p.next:Int) != 1)=true:=by rw [bne_iff_ne];omega
 generalize hK:L.length=K at c24 cm hlc HT h16 HT1 HI |-;have hk1':(((K + 1:Nat):Int)) - 1=(K:Int):=by omega
 obtain ⟨k,tx,ng,mg⟩:=t;simp only at t58 t44 t93 t125 t115;generalize p.token _=PV at HP |-;clear hi hw hs HI0 hlt hk hL hn hs2 hm e1 hcl hK;simp only [Tok.val];go_enter Tryz.func132,Tryz.ntmps132;go_wp2;go_ret2;rw [HP.o];exact ⟨_,rfl,HI.o,HT1.o _⟩
theorem aFa (hi : p.Is b h) (hw : Own.Has w h) (t : Tok) (hL : p.Left t) (hk : t.kind.toNat = 115) (hn : p.next ≠ 0 ∧ p.next ≠ 1) :
  Calls Tryz.prog 132 #[.pointer (some ⟨b,0,none⟩),t.val] w (bG (p.token t) b h w):=by
 have HP:=hhh (show p.token t=(⟨p.l,p.depth,p.maps,p.next,2⟩,none) by rw [hL.token,if_pos hn]);have t58:=nb t.kind 58 (by omega);have t44:=nb t.kind 44 (by omega);have t93:=nb t.kind 93 (by omega);have t125:=nb t.kind 125 (by omega);have t115:=yb t.kind 115 (by omega);have q3:((p.next:Int) == 3)=false:=by
  rw [beq_eq_false_iff_ne];intro e';have e:p.next=3:=by omega
  exact hL.2.2.2 ⟨UInt8.toNat_inj.1 hk,.inl e⟩
 have q2:((p.next:Int) == 2)=false:=by
  rw [beq_eq_false_iff_ne];intro e';have e:p.next=2:=by omega
  exact hL.2.2.2 ⟨UInt8.toNat_inj.1 hk,.inr e⟩
 obtain ⟨pv,sv,hb,a,c,hmm,rfl,hs,HI0⟩:=hi.opened;have HI:=hhh (HI0 p.depth p.next 2 p.maps _ _ hs);have HT:=hhh (fun o=>((Own.aA.refl hw).aD o));have HT1:=hhh (fun o=>(HT.o o).put 26 (.int .i64 2) _ rfl);have c24:=fun o=>(HT.o o).has.cell b _ _ mcs 24 _ rfl
 have c25:=fun o=>(HT.o o).has.cell b _ _ mcs 25 _ rfl
 have c26:=fun o=>(HT.o o).has.cell b _ _ mcs 26 _ rfl
 have f26:=fun o=>(HT.o o).has.free b _ _ mcs 26
 have hlt:=hw.bK;have hne:¬ b=w.heap.size:=by omega
 have hne':¬ w.heap.size=b:=by omega
 have qa:((p.next:Int) != 0)=true:=by rw [bne_iff_ne];omega
 have qb:((p.next:Int) != 1)=true:=by rw [bne_iff_ne];omega
 obtain ⟨k,tx,ng,mg⟩:=t;simp only at t58 t44 t93 t125 t115;generalize p.token _=PV at HP |-;clear hi hw hs HI0 hlt hk hL hn;simp only [Tok.val];go_enter Tryz.func132,Tryz.ntmps132;go_wp2;go_ret2;rw [HP.o];exact ⟨_,rfl,HI.o,HT1.o _⟩
theorem aH7 (hi : p.Is b h) (hw : Own.Has w h) (t : Tok) (hL : p.Left t) (hk : t.kind.toNat ≠ 58 ∧ t.kind.toNat ≠ 44 ∧ t.kind.toNat ≠ 93 ∧ t.kind.toNat ≠ 125 ∧ t.kind.toNat ≠ 115) (hn : p.next ≠ 0 ∧ p.next ≠ 1) :
  Calls Tryz.prog 132 #[.pointer (some ⟨b,0,none⟩),t.val] w (bG (p.token t) b h w):=by
 have HP:=hhh (show p.token t=(⟨p.l,p.depth,p.maps,p.next,2⟩,none) by rw [hL.token,if_pos hn]);have t58:=nb t.kind 58 (by omega);have t44:=nb t.kind 44 (by omega);have t93:=nb t.kind 93 (by omega);have t125:=nb t.kind 125 (by omega);have t115:=nb t.kind 115 (by omega);obtain ⟨pv,sv,hb,a,c,hmm,rfl,hs,HI0⟩:=hi.opened;have HI:=hhh (HI0 p.depth p.next 2 p.maps _ _ hs);have HT:=hhh (fun o=>((Own.aA.refl hw).aD o));have HT1:=hhh (fun o=>(HT.o o).put 26 (.int .i64 2) _ rfl);have c24:=fun o=>(HT.o o).has.cell b _ _ mcs 24 _ rfl
 have c25:=fun o=>(HT.o o).has.cell b _ _ mcs 25 _ rfl
 have c26:=fun o=>(HT.o o).has.cell b _ _ mcs 26 _ rfl
 have f26:=fun o=>(HT.o o).has.free b _ _ mcs 26
 have hlt:=hw.bK;have hne:¬ b=w.heap.size:=by omega
 have hne':¬ w.heap.size=b:=by omega
 have qa:((p.next:Int) != 0)=true:=by rw [bne_iff_ne];omega
 have qb:((p.next:Int) != 1)=true:=by rw [bne_iff_ne];omega
 obtain ⟨k,tx,ng,mg⟩:=t;simp only at t58 t44 t93 t125 t115;generalize p.token _=PV at HP |-;clear hi hw hs HI0 hlt hk hL hn;simp only [Tok.val];go_enter Tryz.func132,Tryz.ntmps132;go_wp2;go_ret2;rw [HP.o];exact ⟨_,rfl,HI.o,HT1.o _⟩
theorem aHa (hi : p.Is b h) (hw : Own.Has w h) (t : Tok) (hL : p.Left t) (hf : p.Fits) (hk : t.kind.toNat = 58) (hn : p.next = 0 ∨ p.next = 1) :
  Calls Tryz.prog 132 #[.pointer (some ⟨b,0,none⟩),t.val] w (bG (p.token t) b h w):=by
 have HP:=hhh (show p.token t=p.value t by rw [hL.token,if_neg (by omega)]);have HV:=hhh (fun o=>dF hi ((Own.aA.refl hw).aD o).has hf t);have t58:=yb t.kind 58 (by omega);have t44:=nb t.kind 44 (by omega);have t93:=nb t.kind 93 (by omega);have t125:=nb t.kind 125 (by omega);have t115:=nb t.kind 115 (by omega);have q4:((p.next:Int) == 4)=false:=by
  rw [beq_eq_false_iff_ne];intro e';have e:p.next=4:=by omega
  exact hL.1 ⟨UInt8.toNat_inj.1 hk,e⟩
 obtain ⟨pv,sv,hb,a,c,hmm,rfl,hs,HI0⟩:=hi.opened;have HT:=hhh (fun o=>((Own.aA.refl hw).aD o));have c24:=fun o=>(HT.o o).has.cell b _ _ mcs 24 _ rfl
 have c25:=fun o=>(HT.o o).has.cell b _ _ mcs 25 _ rfl
 have hHI:=hhh HI0;have hlt:=hw.bK;have hne:¬ b=w.heap.size:=by omega
 have hne':¬ w.heap.size=b:=by omega
 obtain ⟨k,tx,ng,mg⟩:=t;simp only at t58 t44 t93 t125 t115;generalize p.token _=PV at HP |-;generalize p.value _=PW at HP HV;clear hi hw hs HI0 hlt hk hL hf;simp only [Tok.val] at HV |-;rcases hn with hn | hn
 all_goals
  rw [hn] at c25 q4;clear hn hHI;go_enter Tryz.func132,Tryz.ntmps132;go_wp2_with (fail);refine (HV.o _).mono ?_;rintro e w1 ⟨h1,rfl,i1,t1⟩;go_wp2;go_ret2;rw [HP.o];exact ⟨h1,rfl,i1,(HT.o _).trans t1⟩
theorem aGa (hi : p.Is b h) (hw : Own.Has w h) (t : Tok) (hL : p.Left t) (hf : p.Fits) (hk : t.kind.toNat = 44) (hn : p.next = 0 ∨ p.next = 1) :
  Calls Tryz.prog 132 #[.pointer (some ⟨b,0,none⟩),t.val] w (bG (p.token t) b h w):=by
 have HP:=hhh (show p.token t=p.value t by rw [hL.token,if_neg (by omega)]);have HV:=hhh (fun o=>dF hi ((Own.aA.refl hw).aD o).has hf t);have t58:=nb t.kind 58 (by omega);have t44:=yb t.kind 44 (by omega);have t93:=nb t.kind 93 (by omega);have t125:=nb t.kind 125 (by omega);have t115:=nb t.kind 115 (by omega);have q5:((p.next:Int) == 5)=false:=by
  rw [beq_eq_false_iff_ne];intro e';have e:p.next=5:=by omega
  exact hL.2.1 ⟨UInt8.toNat_inj.1 hk,e⟩
 obtain ⟨pv,sv,hb,a,c,hmm,rfl,hs,HI0⟩:=hi.opened;have HT:=hhh (fun o=>((Own.aA.refl hw).aD o));have c24:=fun o=>(HT.o o).has.cell b _ _ mcs 24 _ rfl
 have c25:=fun o=>(HT.o o).has.cell b _ _ mcs 25 _ rfl
 have hHI:=hhh HI0;have hlt:=hw.bK;have hne:¬ b=w.heap.size:=by omega
 have hne':¬ w.heap.size=b:=by omega
 obtain ⟨k,tx,ng,mg⟩:=t;simp only at t58 t44 t93 t125 t115;generalize p.token _=PV at HP |-;generalize p.value _=PW at HP HV;clear hi hw hs HI0 hlt hk hL hf;simp only [Tok.val] at HV |-;rcases hn with hn | hn
 all_goals
  rw [hn] at c25 q5;clear hn hHI;go_enter Tryz.func132,Tryz.ntmps132;go_wp2_with (fail);refine (HV.o _).mono ?_;rintro e w1 ⟨h1,rfl,i1,t1⟩;go_wp2;go_ret2;rw [HP.o];exact ⟨h1,rfl,i1,(HT.o _).trans t1⟩
theorem wI (hi : p.Is b h) (hw : Own.Has w h) (t : Tok) (hL : p.Left t) (hf : p.Fits) (hk : t.kind.toNat = 93) (hm : p.maps = []) (hn : p.next = 0 ∨ p.next = 1) :
  Calls Tryz.prog 132 #[.pointer (some ⟨b,0,none⟩),t.val] w (bG (p.token t) b h w):=by
 have HP:=hhh (show p.token t=p.value t by rw [hL.token,if_neg (by omega)]);have HV:=hhh (fun o=>dF hi ((Own.aA.refl hw).aD o).has hf t);have t58:=nb t.kind 58 (by omega);have t44:=nb t.kind 44 (by omega);have t93:=yb t.kind 93 (by omega);have t125:=nb t.kind 125 (by omega);have t115:=nb t.kind 115 (by omega);obtain ⟨pv,sv,hb,a,c,hmm,rfl,hs,HI0⟩:=hi.opened;rw [show p.maps.length=0 by rw [hm];rfl] at hs hw HV |-;have HT:=hhh (fun o=>((Own.aA.refl hw).aD o));have c24:=fun o=>(HT.o o).has.cell b _ _ mcs 24 _ rfl
 have c25:=fun o=>(HT.o o).has.cell b _ _ mcs 25 _ rfl
 have hHI:=hhh HI0;have hlt:=hw.bK;have hne:¬ b=w.heap.size:=by omega
 have hne':¬ w.heap.size=b:=by omega
 obtain ⟨k,tx,ng,mg⟩:=t;simp only at t58 t44 t93 t125 t115;generalize p.token _=PV at HP |-;generalize p.value _=PW at HP HV;clear hi hw hs HI0 hlt hk hL hf hm;simp only [Tok.val] at HV |-;rcases hn with hn | hn
 all_goals
  rw [hn] at c25;clear hn hHI;go_enter Tryz.func132,Tryz.ntmps132;go_wp2_with (fail);refine (HV.o _).mono ?_;rintro e w1 ⟨h1,rfl,i1,t1⟩;go_wp2;go_ret2;rw [HP.o];exact ⟨h1,rfl,i1,(HT.o _).trans t1⟩
theorem uH (hi : p.Is b h) (hw : Own.Has w h) (t : Tok) (hL : p.Left t) (hf : p.Fits) (hk : t.kind.toNat = 93) (L : List Bool) (h16 : L.length ≤ 16) (hm : p.maps = L ++ [true]) (hn : p.next = 0 ∨ p.next = 1) :
  Calls Tryz.prog 132 #[.pointer (some ⟨b,0,none⟩),t.val] w (bG (p.token t) b h w):=by
 have HP:=hhh (show p.token t=p.value t by rw [hL.token,if_neg (by omega)]);have HV:=hhh (fun o=>dF hi ((Own.aA.refl hw).aD o).has hf t);have t58:=nb t.kind 58 (by omega);have t44:=nb t.kind 44 (by omega);have t93:=yb t.kind 93 (by omega);have t125:=nb t.kind 125 (by omega);have t115:=nb t.kind 115 (by omega);obtain ⟨pv,sv,hb,a,c,hmm,rfl,hs,HI0⟩:=hi.opened;rw [show p.maps.length=L.length + 1 by rw [hm];simp] at hs hw HV |-;have hs2:=hs;rw [hm,List.map_append,List.map_cons,List.map_nil] at hs2;obtain ⟨mb,off,c',cl,e1,rfl,hcl,hlc,hcm,-⟩:=hs2.last;rw [List.length_map] at e1 hcl hlc;rw [e1] at hw hs HV |-;have HT:=hhh (fun o=>((Own.aA.refl hw).aD o));have c24:=fun o=>(HT.o o).has.cell b _ _ mcs 24 _ rfl
 have c25:=fun o=>(HT.o o).has.cell b _ _ mcs 25 _ rfl
 have cm:=fun o=>(HT.o o).has.cell mb _ _ (mcm _ (List.mem_append_right _ (List.mem_singleton.2 rfl))) _ _ hcl
 have hHI:=hhh HI0;have hlt:=hw.bK;have hne:¬ b=w.heap.size:=by omega
 have hne':¬ w.heap.size=b:=by omega
 generalize hK:L.length=K at c24 cm hlc HT h16 HV |-;have hk1':(((K + 1:Nat):Int)) - 1=(K:Int):=by omega
 obtain ⟨k,tx,ng,mg⟩:=t;simp only at t58 t44 t93 t125 t115;generalize p.token _=PV at HP |-;generalize p.value _=PW at HP HV;clear hi hw hs HI0 hlt hk hL hf hs2 hm e1 hcl hK;simp only [Tok.val] at HV |-;rcases hn with hn | hn
 all_goals
  rw [hn] at c25;clear hn hHI;go_enter Tryz.func132,Tryz.ntmps132;go_wp2_with (fail);refine (HV.o _).mono ?_;rintro e w1 ⟨h1,rfl,i1,t1⟩;go_wp2;go_ret2;rw [HP.o];exact ⟨h1,rfl,i1,(HT.o _).trans t1⟩
theorem qU (hi : p.Is b h) (hw : Own.Has w h) (t : Tok) (hL : p.Left t) (hf : p.Fits) (hk : t.kind.toNat = 93) (L : List Bool) (h16 : L.length ≤ 16) (hm : p.maps = L ++ [false]) (hn : p.next = 0 ∨ p.next = 1) :
  Calls Tryz.prog 132 #[.pointer (some ⟨b,0,none⟩),t.val] w (bG (p.token t) b h w):=by
 have HP:=hhh (show p.token t=p.value t by rw [hL.token,if_neg (by omega)]);have HV:=hhh (fun o=>dF hi ((Own.aA.refl hw).aD o).has hf t);have t58:=nb t.kind 58 (by omega);have t44:=nb t.kind 44 (by omega);have t93:=yb t.kind 93 (by omega);have t125:=nb t.kind 125 (by omega);have t115:=nb t.kind 115 (by omega);have q1:((p.next:Int) == 1)=false:=by
  rw [beq_eq_false_iff_ne];intro e';have e:p.next=1:=by omega
  exact hL.2.2.1 (.inl ⟨UInt8.toNat_inj.1 hk,by rw [hm];simp,.inl e⟩)
 have q5:((p.next:Int) == 5)=false:=by
  rw [beq_eq_false_iff_ne];intro e';have e:p.next=5:=by omega
  exact hL.2.2.1 (.inl ⟨UInt8.toNat_inj.1 hk,by rw [hm];simp,.inr e⟩)
 have hn:p.next=0:=by
  rcases hn with e | e
  ·exact e
  ·exact absurd (.inl ⟨UInt8.toNat_inj.1 hk,by rw [hm];simp,.inl e⟩) hL.2.2.1
 obtain ⟨pv,sv,hb,a,c,hmm,rfl,hs,HI0⟩:=hi.opened;rw [show p.maps.length=L.length + 1 by rw [hm];simp] at hs hw HV |-;have hs2:=hs;rw [hm,List.map_append,List.map_cons,List.map_nil] at hs2;obtain ⟨mb,off,c',cl,e1,rfl,hcl,hlc,hcm,-⟩:=hs2.last;rw [List.length_map] at e1 hcl hlc;rw [e1] at hw hs HV |-;have HT:=hhh (fun o=>((Own.aA.refl hw).aD o));have c24:=fun o=>(HT.o o).has.cell b _ _ mcs 24 _ rfl
 have c25:=fun o=>(HT.o o).has.cell b _ _ mcs 25 _ rfl
 have cm:=fun o=>(HT.o o).has.cell mb _ _ (mcm _ (List.mem_append_right _ (List.mem_singleton.2 rfl))) _ _ hcl
 have hHI:=hhh HI0;have hlt:=hw.bK;have hne:¬ b=w.heap.size:=by omega
 have hne':¬ w.heap.size=b:=by omega
 generalize hK:L.length=K at c24 cm hlc HT h16 HV |-;have hk1':(((K + 1:Nat):Int)) - 1=(K:Int):=by omega
 obtain ⟨k,tx,ng,mg⟩:=t;simp only at t58 t44 t93 t125 t115;generalize p.token _=PV at HP |-;generalize p.value _=PW at HP HV;clear hi hw hs HI0 hlt hk hL hf hs2 hm e1 hcl hK;simp only [Tok.val] at HV |-;skip
 all_goals
  rw [hn] at c25 q1 q5;clear hn hHI;go_enter Tryz.func132,Tryz.ntmps132;go_wp2_with (fail);refine (HV.o _).mono ?_;rintro e w1 ⟨h1,rfl,i1,t1⟩;go_wp2;go_ret2;rw [HP.o];exact ⟨h1,rfl,i1,(HT.o _).trans t1⟩
theorem tR (hi : p.Is b h) (hw : Own.Has w h) (t : Tok) (hL : p.Left t) (hf : p.Fits) (hk : t.kind.toNat = 125) (hm : p.maps = []) (hn : p.next = 0 ∨ p.next = 1) :
  Calls Tryz.prog 132 #[.pointer (some ⟨b,0,none⟩),t.val] w (bG (p.token t) b h w):=by
 have HP:=hhh (show p.token t=p.value t by rw [hL.token,if_neg (by omega)]);have HV:=hhh (fun o=>dF hi ((Own.aA.refl hw).aD o).has hf t);have t58:=nb t.kind 58 (by omega);have t44:=nb t.kind 44 (by omega);have t93:=nb t.kind 93 (by omega);have t125:=yb t.kind 125 (by omega);have t115:=nb t.kind 115 (by omega);obtain ⟨pv,sv,hb,a,c,hmm,rfl,hs,HI0⟩:=hi.opened;rw [show p.maps.length=0 by rw [hm];rfl] at hs hw HV |-;have HT:=hhh (fun o=>((Own.aA.refl hw).aD o));have c24:=fun o=>(HT.o o).has.cell b _ _ mcs 24 _ rfl
 have c25:=fun o=>(HT.o o).has.cell b _ _ mcs 25 _ rfl
 have hHI:=hhh HI0;have hlt:=hw.bK;have hne:¬ b=w.heap.size:=by omega
 have hne':¬ w.heap.size=b:=by omega
 obtain ⟨k,tx,ng,mg⟩:=t;simp only at t58 t44 t93 t125 t115;generalize p.token _=PV at HP |-;generalize p.value _=PW at HP HV;clear hi hw hs HI0 hlt hk hL hf hm;simp only [Tok.val] at HV |-;rcases hn with hn | hn
 all_goals
  rw [hn] at c25;clear hn hHI;go_enter Tryz.func132,Tryz.ntmps132;go_wp2_with (fail);refine (HV.o _).mono ?_;rintro e w1 ⟨h1,rfl,i1,t1⟩;go_wp2;go_ret2;rw [HP.o];exact ⟨h1,rfl,i1,(HT.o _).trans t1⟩
theorem pC (hi : p.Is b h) (hw : Own.Has w h) (t : Tok) (hL : p.Left t) (hf : p.Fits) (hk : t.kind.toNat = 125) (L : List Bool) (h16 : L.length ≤ 16) (hm : p.maps = L ++ [false]) (hn : p.next = 0 ∨ p.next = 1) :
  Calls Tryz.prog 132 #[.pointer (some ⟨b,0,none⟩),t.val] w (bG (p.token t) b h w):=by
 have HP:=hhh (show p.token t=p.value t by rw [hL.token,if_neg (by omega)]);have HV:=hhh (fun o=>dF hi ((Own.aA.refl hw).aD o).has hf t);have t58:=nb t.kind 58 (by omega);have t44:=nb t.kind 44 (by omega);have t93:=nb t.kind 93 (by omega);have t125:=yb t.kind 125 (by omega);have t115:=nb t.kind 115 (by omega);obtain ⟨pv,sv,hb,a,c,hmm,rfl,hs,HI0⟩:=hi.opened;rw [show p.maps.length=L.length + 1 by rw [hm];simp] at hs hw HV |-;have hs2:=hs;rw [hm,List.map_append,List.map_cons,List.map_nil] at hs2;obtain ⟨mb,off,c',cl,e1,rfl,hcl,hlc,hcm,-⟩:=hs2.last;rw [List.length_map] at e1 hcl hlc;rw [e1] at hw hs HV |-;have HT:=hhh (fun o=>((Own.aA.refl hw).aD o));have c24:=fun o=>(HT.o o).has.cell b _ _ mcs 24 _ rfl
 have c25:=fun o=>(HT.o o).has.cell b _ _ mcs 25 _ rfl
 have cm:=fun o=>(HT.o o).has.cell mb _ _ (mcm _ (List.mem_append_right _ (List.mem_singleton.2 rfl))) _ _ hcl
 have hHI:=hhh HI0;have hlt:=hw.bK;have hne:¬ b=w.heap.size:=by omega
 have hne':¬ w.heap.size=b:=by omega
 generalize hK:L.length=K at c24 cm hlc HT h16 HV |-;have hk1':(((K + 1:Nat):Int)) - 1=(K:Int):=by omega
 obtain ⟨k,tx,ng,mg⟩:=t;simp only at t58 t44 t93 t125 t115;generalize p.token _=PV at HP |-;generalize p.value _=PW at HP HV;clear hi hw hs HI0 hlt hk hL hf hs2 hm e1 hcl hK;simp only [Tok.val] at HV |-;rcases hn with hn | hn
 all_goals
  rw [hn] at c25;clear hn hHI;go_enter Tryz.func132,Tryz.ntmps132;go_wp2_with (fail);refine (HV.o _).mono ?_;rintro e w1 ⟨h1,rfl,i1,t1⟩;go_wp2;go_ret2;rw [HP.o];exact ⟨h1,rfl,i1,(HT.o _).trans t1⟩
theorem qR (hi : p.Is b h) (hw : Own.Has w h) (t : Tok) (hL : p.Left t) (hf : p.Fits) (hk : t.kind.toNat = 125) (L : List Bool) (h16 : L.length ≤ 16) (hm : p.maps = L ++ [true]) (hn : p.next = 0 ∨ p.next = 1) :
  Calls Tryz.prog 132 #[.pointer (some ⟨b,0,none⟩),t.val] w (bG (p.token t) b h w):=by
 have HP:=hhh (show p.token t=p.value t by rw [hL.token,if_neg (by omega)]);have HV:=hhh (fun o=>dF hi ((Own.aA.refl hw).aD o).has hf t);have t58:=nb t.kind 58 (by omega);have t44:=nb t.kind 44 (by omega);have t93:=nb t.kind 93 (by omega);have t125:=yb t.kind 125 (by omega);have t115:=nb t.kind 115 (by omega);have q2:((p.next:Int) == 2)=false:=by
  rw [beq_eq_false_iff_ne];intro e';have e:p.next=2:=by omega
  exact hL.2.2.1 (.inr ⟨UInt8.toNat_inj.1 hk,by rw [hm];simp,.inl e⟩)
 have q5:((p.next:Int) == 5)=false:=by
  rw [beq_eq_false_iff_ne];intro e';have e:p.next=5:=by omega
  exact hL.2.2.1 (.inr ⟨UInt8.toNat_inj.1 hk,by rw [hm];simp,.inr e⟩)
 obtain ⟨pv,sv,hb,a,c,hmm,rfl,hs,HI0⟩:=hi.opened;rw [show p.maps.length=L.length + 1 by rw [hm];simp] at hs hw HV |-;have hs2:=hs;rw [hm,List.map_append,List.map_cons,List.map_nil] at hs2;obtain ⟨mb,off,c',cl,e1,rfl,hcl,hlc,hcm,-⟩:=hs2.last;rw [List.length_map] at e1 hcl hlc;rw [e1] at hw hs HV |-;have HT:=hhh (fun o=>((Own.aA.refl hw).aD o));have c24:=fun o=>(HT.o o).has.cell b _ _ mcs 24 _ rfl
 have c25:=fun o=>(HT.o o).has.cell b _ _ mcs 25 _ rfl
 have cm:=fun o=>(HT.o o).has.cell mb _ _ (mcm _ (List.mem_append_right _ (List.mem_singleton.2 rfl))) _ _ hcl
 have hHI:=hhh HI0;have hlt:=hw.bK;have hne:¬ b=w.heap.size:=by omega
 have hne':¬ w.heap.size=b:=by omega
 generalize hK:L.length=K at c24 cm hlc HT h16 HV |-;have hk1':(((K + 1:Nat):Int)) - 1=(K:Int):=by omega
 obtain ⟨k,tx,ng,mg⟩:=t;simp only at t58 t44 t93 t125 t115;generalize p.token _=PV at HP |-;generalize p.value _=PW at HP HV;clear hi hw hs HI0 hlt hk hL hf hs2 hm e1 hcl hK;simp only [Tok.val] at HV |-;rcases hn with hn | hn
 all_goals
  rw [hn] at c25 q2 q5;clear hn hHI;go_enter Tryz.func132,Tryz.ntmps132;go_wp2_with (fail);refine (HV.o _).mono ?_;rintro e w1 ⟨h1,rfl,i1,t1⟩;go_wp2;go_ret2;rw [HP.o];exact ⟨h1,rfl,i1,(HT.o _).trans t1⟩
theorem aEv (hi : p.Is b h) (hw : Own.Has w h) (t : Tok) (hL : p.Left t) (hf : p.Fits) (hk : t.kind.toNat = 115) (hn : p.next = 0 ∨ p.next = 1) :
  Calls Tryz.prog 132 #[.pointer (some ⟨b,0,none⟩),t.val] w (bG (p.token t) b h w):=by
 have HP:=hhh (show p.token t=p.value t by rw [hL.token,if_neg (by omega)]);have HV:=hhh (fun o=>dF hi ((Own.aA.refl hw).aD o).has hf t);have t58:=nb t.kind 58 (by omega);have t44:=nb t.kind 44 (by omega);have t93:=nb t.kind 93 (by omega);have t125:=nb t.kind 125 (by omega);have t115:=yb t.kind 115 (by omega);have q3:((p.next:Int) == 3)=false:=by
  rw [beq_eq_false_iff_ne];intro e';have e:p.next=3:=by omega
  exact hL.2.2.2 ⟨UInt8.toNat_inj.1 hk,.inl e⟩
 have q2:((p.next:Int) == 2)=false:=by
  rw [beq_eq_false_iff_ne];intro e';have e:p.next=2:=by omega
  exact hL.2.2.2 ⟨UInt8.toNat_inj.1 hk,.inr e⟩
 obtain ⟨pv,sv,hb,a,c,hmm,rfl,hs,HI0⟩:=hi.opened;have HT:=hhh (fun o=>((Own.aA.refl hw).aD o));have c24:=fun o=>(HT.o o).has.cell b _ _ mcs 24 _ rfl
 have c25:=fun o=>(HT.o o).has.cell b _ _ mcs 25 _ rfl
 have hHI:=hhh HI0;have hlt:=hw.bK;have hne:¬ b=w.heap.size:=by omega
 have hne':¬ w.heap.size=b:=by omega
 obtain ⟨k,tx,ng,mg⟩:=t;simp only at t58 t44 t93 t125 t115;generalize p.token _=PV at HP |-;generalize p.value _=PW at HP HV;clear hi hw hs HI0 hlt hk hL hf;simp only [Tok.val] at HV |-;rcases hn with hn | hn
 all_goals
  rw [hn] at c25 q3 q2;clear hn hHI;go_enter Tryz.func132,Tryz.ntmps132;go_wp2_with (fail);refine (HV.o _).mono ?_;rintro e w1 ⟨h1,rfl,i1,t1⟩;go_wp2;go_ret2;rw [HP.o];exact ⟨h1,rfl,i1,(HT.o _).trans t1⟩
theorem aIa (hi : p.Is b h) (hw : Own.Has w h) (t : Tok) (hL : p.Left t) (hf : p.Fits) (hk : t.kind.toNat ≠ 58 ∧ t.kind.toNat ≠ 44 ∧ t.kind.toNat ≠ 93 ∧ t.kind.toNat ≠ 125 ∧ t.kind.toNat ≠ 115) (hn : p.next = 0 ∨ p.next = 1) :
  Calls Tryz.prog 132 #[.pointer (some ⟨b,0,none⟩),t.val] w (bG (p.token t) b h w):=by
 have HP:=hhh (show p.token t=p.value t by rw [hL.token,if_neg (by omega)]);have HV:=hhh (fun o=>dF hi ((Own.aA.refl hw).aD o).has hf t);have t58:=nb t.kind 58 (by omega);have t44:=nb t.kind 44 (by omega);have t93:=nb t.kind 93 (by omega);have t125:=nb t.kind 125 (by omega);have t115:=nb t.kind 115 (by omega);obtain ⟨pv,sv,hb,a,c,hmm,rfl,hs,HI0⟩:=hi.opened;have HT:=hhh (fun o=>((Own.aA.refl hw).aD o));have c24:=fun o=>(HT.o o).has.cell b _ _ mcs 24 _ rfl
 have c25:=fun o=>(HT.o o).has.cell b _ _ mcs 25 _ rfl
 have hHI:=hhh HI0;have hlt:=hw.bK;have hne:¬ b=w.heap.size:=by omega
 have hne':¬ w.heap.size=b:=by omega
 obtain ⟨k,tx,ng,mg⟩:=t;simp only at t58 t44 t93 t125 t115;generalize p.token _=PV at HP |-;generalize p.value _=PW at HP HV;clear hi hw hs HI0 hlt hk hL hf;simp only [Tok.val] at HV |-;rcases hn with hn | hn
 all_goals
  rw [hn] at c25;clear hn hHI;go_enter Tryz.func132,Tryz.ntmps132;go_wp2_with (fail);refine (HV.o _).mono ?_;rintro e w1 ⟨h1,rfl,i1,t1⟩;go_wp2;go_ret2;rw [HP.o];exact ⟨h1,rfl,i1,(HT.o _).trans t1⟩
theorem aCf (hi : p.Is b h) (hw : Own.Has w h) (hf : p.Fits) (t : Tok) :
  Calls Tryz.prog 132 #[.pointer (some ⟨b,0,none⟩),t.val] w (bG (p.token t) b h w):=by
 have h16:p.maps.length <= 16:=Nat.le_trans hf.maps hf.depth;by_cases hA:t.kind=58 /\ p.next=4
 ·exact aDa hi hw t hA.1 hA.2
 by_cases hB:t.kind=44 /\ p.next=5
 ·obtain ⟨L,m,hl⟩:∃ L m,p.maps=L ++ [m]:=by
   rcases List.eq_nil_or_concat p.maps with h | ⟨L,m,h⟩
   ·exact absurd h (hf.more hB.2)
   ·exact ⟨L,m,by rw [h,List.concat_eq_append]⟩
  exact aBo hi hw t hB.1 hB.2 L m hl (by rw [hl] at h16;simp at h16;omega)
 by_cases hC:(t.kind=93 /\ p.maps.getLast? = some false /\ (p.next=1 \/ p.next=5)) \/ (t.kind=125 /\ p.maps.getLast? = some true /\ (p.next=2 \/ p.next=5))
 ·rcases List.eq_nil_or_concat p.maps with h | ⟨L,m,h⟩
  ·rw [h] at hC;rcases hC with ⟨_,h2,_⟩ | ⟨_,h2,_⟩ <;> cases h2
  ·rw [List.concat_eq_append] at h
   refine aA9 hi hw t L m h (by rw [h] at h16;simp at h16;omega) ?_;rw [h,List.getLast?_append] at hC;rcases hC with ⟨h1,h2,h3⟩ | ⟨h1,h2,h3⟩
   ·exact .inl ⟨by simpa using h2,h1,h3⟩
   ·exact .inr ⟨by simpa using h2,h1,h3⟩
 by_cases hD:t.kind=115 /\ (p.next=3 \/ p.next=2)
 ·exact aHj hi hw t hD.1 hD.2
 have hL:p.Left t:=⟨hA,hB,hC,hD⟩;have hms:p.maps=[] \/ (∃ L,p.maps=L ++ [false]) \/ (∃ L,p.maps=L ++ [true]):=by
  rcases List.eq_nil_or_concat p.maps with h | ⟨L,m,h⟩
  ·exact .inl h
  ·rw [List.concat_eq_append] at h
   cases m
   ·exact .inr (.inl ⟨L,h⟩)
   ·exact .inr (.inr ⟨L,h⟩)
 by_cases hn:p.next ≠ 0 /\ p.next ≠ 1
 ·by_cases h58:t.kind.toNat=58
  ·exact aGc hi hw t hL h58 hn
  by_cases h44:t.kind.toNat=44
  ·exact aGb hi hw t hL h44 hn
  by_cases h93:t.kind.toNat=93
  ·rcases hms with hm | ⟨L,hm⟩ | ⟨L,hm⟩
   ·exact vZ hi hw t hL h93 hm hn
   ·exact rC hi hw t hL h93 L (by rw [hm] at h16;simp at h16;omega) hm hn
   ·exact uC hi hw t hL h93 L (by rw [hm] at h16;simp at h16;omega) hm hn
  by_cases h125:t.kind.toNat=125
  ·rcases hms with hm | ⟨L,hm⟩ | ⟨L,hm⟩
   ·exact tQ hi hw t hL h125 hm hn
   ·exact oC hi hw t hL h125 L (by rw [hm] at h16;simp at h16;omega) hm hn
   ·exact qN hi hw t hL h125 L (by rw [hm] at h16;simp at h16;omega) hm hn
  by_cases h115:t.kind.toNat=115
  ·exact aFa hi hw t hL h115 hn
  exact aH7 hi hw t hL ⟨h58,h44,h93,h125,h115⟩ hn
 ·by_cases h58:t.kind.toNat=58
  ·exact aHa hi hw t hL hf h58 (by omega)
  by_cases h44:t.kind.toNat=44
  ·exact aGa hi hw t hL hf h44 (by omega)
  by_cases h93:t.kind.toNat=93
  ·rcases hms with hm | ⟨L,hm⟩ | ⟨L,hm⟩
   ·exact wI hi hw t hL hf h93 hm (by omega)
   ·exact qU hi hw t hL hf h93 L (by rw [hm] at h16;simp at h16;omega) hm (by omega)
   ·exact uH hi hw t hL hf h93 L (by rw [hm] at h16;simp at h16;omega) hm (by omega)
  by_cases h125:t.kind.toNat=125
  ·rcases hms with hm | ⟨L,hm⟩ | ⟨L,hm⟩
   ·exact tR hi hw t hL hf h125 hm (by omega)
   ·exact pC hi hw t hL hf h125 L (by rw [hm] at h16;simp at h16;omega) hm (by omega)
   ·exact qR hi hw t hL hf h125 L (by rw [hm] at h16;simp at h16;omega) hm (by omega)
  by_cases h115:t.kind.toNat=115
  ·exact aEv hi hw t hL hf h115 (by omega)
  exact aIa hi hw t hL hf ⟨h58,h44,h93,h125,h115⟩ (by omega)
end
end Pip
end
section
open Go.RowKit
open Json (Part)
namespace Pip
def aG (l:List Part):List Value:=l.map Part.val
def kZ (o:Jin × List Part × Nat) (b:Nat) (h:Own.Heap) (w:World) (e:Ending) (w':World):Prop :=
 ∃ v hv h',e = .returned (.tuple #[v,.int .i64 (o.2.2:Int)]) /\ Own.Slc 20 (aG o.2.1) v hv /\ o.1.Is b h' /\ Own.aA h (hv ++ h') w w'
theorem infoAny:(Tryz.prog.info? 20).map (fun i=>(i.zero,i.size,i.bytes))=some (some .nilIface,1,16):=by kernel_rfl
theorem tG (p:Part):p.val.oneCell'=true:=by
 cases p with
 | other b=>cases b <;> rfl
 | _=>rfl
theorem eF (p:Part):p.val = .nilIface \/ ∃ T x,p.val = .iface T x:=by
 cases p with
 | other b=>cases b <;> first | exact .inl rfl | exact .inr ⟨_,_,rfl⟩
 | _=>first | exact .inl rfl | exact .inr ⟨_,_,rfl⟩
theorem Jin.Is.dN {p:Jin} {b:Nat} {h:Own.Heap} {w:World} (hi:p.Is b h) (hw:Own.Has w h):w.cell? ⟨b,26,none⟩=some (.int .i64 (p.e:Int)) /\ w.frozen? ⟨b,26,none⟩=false:=by
 obtain ⟨pv,sv,hb,a,c,hm,rfl,hs,HI0⟩:=hi.opened;exact ⟨hw.cell b _ _ mcs 26 _ rfl,hw.free b _ _ mcs 26⟩
theorem Jin.Is.aBs {p:Jin} {b:Nat} {h:Own.Heap} {w:World} (hi:p.Is b h) (hw:Own.Has w h):w.cell? ⟨b,25,none⟩=some (.int .i64 (p.next:Int)):=by
 obtain ⟨pv,sv,hb,a,c,hm,rfl,hs,HI0⟩:=hi.opened;exact hw.cell b _ _ mcs 25 _ rfl
theorem Jin.Is.aAy {p : Jin} {b : Nat} {h a0 : Own.Heap} {w u : World} (hi : p.Is b h) (t : Own.aA a0 h u w) (e : Nat) :
  ∃ h',(Jin.mk p.l p.depth p.maps p.next e).Is b h' /\ Own.aA a0 h' u (w.setCell ⟨b,26,none⟩ (.int .i64 (e:Int))):=by
 obtain ⟨pv,sv,hb,a,c,hm,rfl,hs,HI0⟩:=hi.opened;exact ⟨_,HI0 p.depth p.next e p.maps _ hm hs,t.put 26 _ _ rfl⟩
def Jin.ahead (p:Jin):List Tok -> Jin × List Part
 | []=>(p,[])
 | t :: l=>(((p.token t).1.ahead l).1,(p.token t).2.toList ++ ((p.token t).1.ahead l).2)
theorem Jin.mJ (p : Jin) (l : List Tok) (e : Nat) (k : Nat) (hk : ∀ j, j < k → (p.ahead (l.take (j + 1))).1.e = 0) (hkl : k ≤ l.length) :
  p.parts l e=(((p.ahead (l.take k)).1.parts (l.drop k) e).1,(p.ahead (l.take k)).2 ++ ((p.ahead (l.take k)).1.parts (l.drop k) e).2.1,((p.ahead (l.take k)).1.parts (l.drop k) e).2.2):=by
 induction k generalizing p l with
 | zero=>simp [Jin.ahead]
 | succ k ih =>
  cases l with
  | nil=>simp at hkl
  | cons t l =>
   have h0:(p.token t).1.e=0:=by
    have:=hk 0 (by omega);simpa [Jin.ahead] using this
   have:=ih (p.token t).1 l (fun j hj=>by
    have:=hk (j + 1) (by omega)
    simpa [Jin.ahead] using this) (by simp at hkl;omega)
   rw [Jin.parts,if_neg (by simp [h0]),this];simp [Jin.ahead]
theorem Jin.pB {p:Jin} (h:p.Fits):∀ l:List Tok,(p.ahead l).1.Fits
 | []=>h
 | t :: l=>Jin.pB (h.token t) l
theorem Jin.eV (p:Jin) (l:List Tok) (t:Tok):p.ahead (l ++ [t])=(((p.ahead l).1.token t).1,(p.ahead l).2 ++ ((p.ahead l).1.token t).2.toList):=by
 induction l generalizing p with
 | nil=>simp [Jin.ahead]
 | cons x l ih=>simp [Jin.ahead,ih]
theorem Jin.cY (p:Jin) (l:List Tok):(p.ahead l).2.length <= l.length:=by
 induction l generalizing p with
 | nil=>simp [Jin.ahead]
 | cons t l ih =>
  have:=ih (p.token t).1;have h2:(p.token t).2.toList.length <= 1:=by cases (p.token t).2 <;> simp
  simp only [Jin.ahead,List.length_append,List.length_cons];omega
theorem uJ (l : List Tok) (j : Nat) (h : j < l.length) (i : Nat) (v : Value) (hi : [Value.int .u8 (l[j].kind.toNat : Int), .string ⟨l[j].text.toArray⟩, .bool l[j].neg, .int .u64 (l[j].mag : Int)][i]? = some v) :
  (cK l)[j * 4 + i]? = some v:=by
 have hi4:i < 4:=(List.getElem?_eq_some_iff.1 hi).1
 induction l generalizing j with
 | nil=>simp at h
 | cons t l ih =>
  have e:cK (t :: l)=[Value.int .u8 (t.kind.toNat:Int),.string ⟨t.text.toArray⟩,.bool t.neg,.int .u64 (t.mag:Int)] ++ cK l:=rfl;rw [e]
  cases j with
  | zero=>rw [List.getElem?_append_left (by simp;omega)];simpa using hi
  | succ j =>
   rw [List.getElem?_append_right (by simp;omega)];have:=ih j (by simpa using h) (by simpa using hi);rw [<- this];congr 1;simp;omega
section
variable {p:Jin} {b:Nat} {h:Own.Heap} {w:World}
def aD7 (o:Jin × List Part × Nat) (b:Nat) (h:Own.Heap) (w:World) (e:Ending) (w':World):Prop :=
 ∃ v hv h',e = .returned (.tuple #[v,.int .i64 (o.2.2:Int)]) /\ Own.Slc 20 (aG o.2.1) v hv /\ o.1.Is b h' /\ Own.aA h (hv ++ h') w w'
theorem aBl (hi : p.Is b h) (hf : p.Fits) (he : p.e = 0) (ts : List Tok) (v : Value) (hv : Own.Heap) (hs : Own.Slk 4 242 ts.length (cK ts) v hv) (hw : Own.Has w (hv ++ h)) (e : Nat) (hn : ts.length ≤ 1000) :
  Calls Tryz.prog 115 #[.pointer (some ⟨b,0,none⟩),v,.int .i64 (e:Int)] w (aD7 (p.parts ts e) b (hv ++ h) w):=by
 obtain ⟨i0,hi0,e0⟩:=Option.map_eq_some_iff.1 infoAny;simp only [Prod.mk.injEq] at e0;obtain ⟨hz,hsz,hby⟩:=e0;obtain ⟨a,c,rfl⟩:=hs.len;have HI:=hhh hi;have HW:=hhh hw;have HFt:=hhh hf;have HE0:=hhh he;have HS:=hhh hs;have Hi:=hhh (And.intro hi0 (And.intro hz (And.intro hsz hby)));obtain ⟨N,hN⟩:∃ N,N=ts.length:=⟨_,rfl⟩;rw [<- hN] at hn |-;have HN:=hhh hN;clear hi hf he hs hw hi0 hz hsz hby hN;go_enter Tryz.func115,Tryz.ntmps115;go_wp2
 go_loopw [8, 15] (fun o i wr => ∃ (j : Nat) (ho hj : Own.Heap), i = .int .i64 j ∧ j ≤ N ∧ Hid (∀ k, k < j → (p.ahead (ts.take (k + 1))).1.e = 0) ∧
   Own.Slc 20 (aG (p.ahead (ts.take j)).2) o ho /\ (p.ahead (ts.take j)).1.Is b hj /\ Own.aA (hv ++ h) (ho ++ (hv ++ hj)) w wr) (fun _ i _=>N - (intOf i).toNat)
 case atStart=>exact ⟨0,[],h,rfl,Nat.zero_le _,hhh fun k hk=>absurd hk (Nat.not_lt_zero _),.bare none rfl,HI.o,Own.aA.refl HW.o⟩
 case round =>
  obtain ⟨j,ho,hj,rfl,hjN,hz,hso,hij,ht⟩:=hrel;have HSo:=hhh hso;have HIj:=hhh hij;have HT:=hhh ht;clear hso hij ht;by_cases hlt:j < N
  ·have hjl:j < ts.length:=by have:=HN.o;omega
   have hltI:(j:Int) < (N:Int):=by omega
   obtain ⟨tb,m,spare,e1,e2,hsp,hm⟩:=HS.o.at_ (by omega);injection e1 with e1a e1b e1c
   subst e1a;clear e1b e1c;have hcell:=fun i u (hu:[Value.int .u8 (ts[j].kind.toNat:Int),.string ⟨ts[j].text.toArray⟩,.bool ts[j].neg,.int .u64 (ts[j].mag:Int)][i]? = some u) =>
    HT.o.has.right.left.cell tb 242 (cK ts ++ spare) (by rw [e2];exact List.mem_singleton.2 rfl) (j * 4 + i) u (by
     have h4:=uJ ts j hjl i u hu
     rw [List.getElem?_append_left (List.getElem?_eq_some_iff.1 h4).1,h4])
   have k0:wr.cell? ⟨tb,j * 4,none⟩=some (Value.int .u8 (ts[j].kind.toNat:Int)):=hcell 0 _ rfl;have k1:=hcell 1 _ rfl;have k2:=hcell 2 _ rfl;have k3:=hcell 3 _ rfl;clear e2;have hsn:=hhh (show ts.take (j + 1)=ts.take j ++ [ts[j]] from List.take_succ_eq_append_getElem hjl);have HFj:=hhh (Jin.pB HFt.o (ts.take j));have HTk:=hhh (fun o=>aCf HIj.o (HT.o.aD o).has.right.right HFj.o ts[j]);have HSn:=hhh (show p.ahead (ts.take (j + 1))=(((p.ahead (ts.take j)).1.token ts[j]).1,(p.ahead (ts.take j)).2 ++ ((p.ahead (ts.take j)).1.token ts[j]).2.toList) by rw [hsn.o,Jin.eV]);have HLen:=hhh (Jin.cY p (ts.take j));generalize hA:p.ahead (ts.take j)=A at HIj HSo HFj HTk HSn HLen;obtain ⟨q,ps⟩:=A;have HA:=hhh hA;clear hA;simp only at HIj HSo HFj HTk HSn HLen;generalize hR:q.token ts[j]=R at HTk HSn;obtain ⟨q2,op⟩:=R;have HR:=hhh hR;clear hR;simp only at HTk HSn;go_wp2_with (fail);refine (HTk.o _).mono ?_;rintro e3 w3 ⟨h3,rfl,hi3,ht3⟩;have HI3:=hhh hi3;have T3:=hhh ((HT.o.aD _).trans ((ht3.behind (HT.o.aD _).has.right).behind (HT.o.aD _).has));obtain ⟨ce,cf⟩:=hi3.dN T3.o.has.right.right;clear hi3 ht3 k0 k1 k2 k3 hcell;by_cases hq:q2.e=0
   ·have hqI:(q2.e:Int)=0:=by omega
    rw [hqI] at ce
    cases op with
    | none =>
     go_wp2_with (fail);go_roundw
     case rel=>exact ⟨j + 1,ho,h3,by go_num,by omega,hhh fun k hk=>by
      by_cases hkj:k < j
      ·exact hz.out k hkj
      ·obtain rfl:k=j:=by omega
       rw [HSn.o];exact hq,by rw [HSn.o];simpa using HSo.o,by rw [HSn.o];exact HI3.o,T3.o⟩
     case measure=>simp [intOf];omega
    | some y =>
     have hps:ps.length <= 1000:=by have:=HLen.o;rw [List.length_take] at this;omega
     obtain ⟨oa,oc,ro⟩:=HSo.o.len;rw [show (aG ps).length=ps.length from List.length_map ..] at ro;subst ro;rcases eF y with hY | ⟨T,x,hY⟩
     all_goals
      rw [show told (some y)=y.val from rfl,hY];generalize hM:ps.length=M at hps HSo;have HM:=hhh hM;clear hM;go_wp2_with (at_builtin;go_loud (refine Own.bB rfl _ _ 170 rfl 20 i0 .nilIface 16 Tryz.underlying170 Hi.o.1 Hi.o.2.1 Hi.o.2.2.1 Hi.o.2.2.2 rfl (.slice oa M oc) (aG ps) M (by rw [<- HM.o];exact List.length_map ..) ho (hv ++ h3) rfl HSo.o T3.o.has _ rfl rfl ?c1 ?c2 ?_))
      case c1=>simp only [maxLen];omega
      case c2=>omega
      intro ad' c' h' w' hs' ht';have S4:=hhh hs';have T4:=hhh (T3.o.trans ht');clear hs' ht';go_wp2;go_roundw
      case rel=>exact ⟨j + 1,h',h3,by go_num,by omega,hhh fun k hk=>by
       by_cases hkj:k < j
       ·exact hz.out k hkj
       ·obtain rfl:k=j:=by omega
        rw [HSn.o];exact hq,by rw [HSn.o];simpa [aG,hY] using S4.o,by rw [HSn.o];exact HI3.o,T4.o⟩
      case measure=>simp [intOf];omega
   ·have hqI:((q2.e:Int) == 0)=false:=by rw [beq_eq_false_iff_ne];omega
    go_wp2_with (fail);go_quiet (fail);go_wp2;go_ret2;have HP:p.parts ts e=(q2,ps,q2.e):=by
     rw [Jin.mJ p ts e j hz.out (by omega),HA.o,List.drop_eq_getElem_cons hjl];simp only [Jin.parts,HR.o];rw [if_pos hq];simp
    rw [HP];exact ⟨_,ho,h3,rfl,HSo.o,HI3.o,((T3.o.perm (.refl _) (Own.aE _ (hv ++ (ho ++ h3)) fun x=>by simp only [List.count_append];omega)).forget).drewN _⟩
  ·have hge:(N:Int) <= (j:Int):=by omega
   obtain rfl:j=N:=by omega
   have HP:p.parts ts e=(Jin.mk (p.ahead ts).1.l (p.ahead ts).1.depth (p.ahead ts).1.maps (p.ahead ts).1.next e,(p.ahead ts).2,e):=by
    rw [Jin.mJ p ts e ts.length (by have:=HN.o;rw [<- this];exact hz.out) (Nat.le_refl _)];simp [Jin.parts]
   have hta:ts.take j=ts:=by rw [HN.o];exact List.take_length
   rw [hta] at HSo HIj;have HP2:=hhh HP;obtain ⟨c26,f26⟩:=HIj.o.dN HT.o.has.right.right;obtain ⟨h',i',t'⟩:=HIj.o.aAy (Own.aA.refl HT.o.has.right.right) e;have TE:=hhh (HT.o.trans ((t'.behind HT.o.has.right).behind HT.o.has));have IE:=hhh i';obtain ⟨oa,oc,ro⟩:=HSo.o.len;subst ro;clear t' i';go_wp2;go_ret2;rw [HP2.o];exact ⟨_,ho,h',rfl,HSo.o,IE.o,(TE.o.perm (.refl _) (Own.aE _ (hv ++ (ho ++ h')) fun x=>by simp only [List.count_append];omega)).forget⟩
end
end Pip
end
section
open Go.RowKit
open Json (Part)
namespace Pip
theorem Lex.gJ (l:Lex) (x:UInt8):(l.aK x).2.length <= 1:=by
 rcases lC l x with h | ⟨t,h⟩ <;> rw [h] <;> simp
theorem Lex.mD (l:Lex):l.ended.2.length <= 1:=by
 unfold Lex.ended
 repeat' split
 all_goals simp
theorem Lex.aG9 (l:Lex) (x:UInt8):(l.act x).2.length <= 2:=by
 unfold Lex.act;split
 ·unfold Lex.text
  repeat' split
  all_goals simp
 ·split
  ·unfold Lex.word
   repeat' split
   all_goals simp
  ·split
   ·unfold Lex.number
    dsimp only
    repeat' split
    all_goals
     simp only [List.length_append,List.length_nil]
     first
     | omega
     | exact Nat.le_trans (Nat.add_le_add (Lex.mD _) (Lex.gJ _ _)) (Nat.le_refl _)
     | exact Nat.le_trans (Lex.gJ _ _) (by decide)
     | exact Nat.le_trans (Lex.mD _) (by decide)
     | (have h2 := Lex.gJ l x
        omega)
   ·have:=Lex.gJ l x
    omega
theorem Lex.dP (l:Lex) (x:UInt8):(l.step x).2.1.length <= 2:=by
 have:=Lex.aG9 l x;unfold Lex.step
 repeat' split
 all_goals simp
 omega
theorem Lex.eM (l:Lex):l.fin.2.1.length <= 2:=by
 have:=Lex.mD l;unfold Lex.fin
 repeat' split
 all_goals simp
 omega
section
variable {p:Jin} {b:Nat} {h:Own.Heap} {w:World}
theorem uN (hf : p.Fits) (he : p.e = 0) (O : Lex × List Tok × Nat) (hO : O.1.Fits) (hn : O.2.1.length ≤ 2) {mv : Value} {hm hl : Own.Heap} (hs : Own.Slc 4 (p.maps.map Value.bool) mv hm)
  (hw:Own.Has w (hl ++ hm)) (w1:World) (v:Value) (hv hl':Own.Heap) (s1:Own.Slk 4 242 O.2.1.length (cK O.2.1) v hv)
  (i1:O.1.Is b [.int .i64 (p.depth:Int),mv,.int .i64 (p.next:Int),.int .i64 (p.e:Int)] hl') (t1:Own.aA hl (hv ++ hl') w w1) :
  Calls Tryz.prog 115 #[.pointer (some ⟨b,0,none⟩),v,.int .i64 (O.2.2:Int)] w1 (kZ ((p.on O.1).parts O.2.1 O.2.2) b (hl ++ hm) w):=by
 have T1:Own.aA (hl ++ hm) (hv ++ (hl' ++ hm)) w w1:=by
  have:=t1.frame hw
  rwa [List.append_assoc] at this
 refine (aBl (p:=p.on O.1) ⟨mv,hm,hl',hs,i1,rfl⟩ (hf.on hO) he O.2.1 v hv s1 T1.has O.2.2 (by omega)).mono ?_;rintro e w2 ⟨v2,hv2,h2,rfl,s2,i2,t2⟩;exact ⟨v2,hv2,h2,rfl,s2,i2,T1.trans t2⟩
theorem aBu (hi : p.Is b h) (hw : Own.Has w h) (hf : p.Fits) (x : UInt8) :
  Calls Tryz.prog 165 #[.pointer (some ⟨b,0,none⟩),.int .u8 (x.toNat:Int)] w (kZ (p.step x) b h w):=by
 obtain ⟨c26,-⟩:=hi.dN hw;have HW:=hhh hw;by_cases he:p.e=0
 ·obtain ⟨mv,hm,hl,hs,il,rfl⟩:=hi
  have HP:=hhh (show p.step x=(p.on (p.l.step x).1).parts (p.l.step x).2.1 (p.l.step x).2.2 by unfold Jin.step;rw [if_neg (by omega)]);have HL:=hhh (aC4 il hw.left hf.l x);have HQ:=hhh (uN (b:=b) hf he (p.l.step x) (hf.l.step x).1 (Lex.dP _ _) hs hw);generalize p.l.step x=O at HP HL HQ;generalize p.step x=PS at HP |-;rw [he] at c26;clear hw hf hs il he;go_enter Tryz.func165,Tryz.ntmps165;go_wp2_with (fail);refine HL.o.mono ?_;rintro e1 w1 ⟨v,hv,hl',rfl,s1,i1,t1⟩;have HR:=hhh (HQ.o w1 v hv hl' s1 i1 t1);rw [<- HP.o] at HR;clear s1 i1 t1;go_wp2_with (fail);refine HR.o.mono ?_;rintro e2 w2 ⟨v2,hv2,h2,rfl,s2,i2,t2⟩;go_wp2;go_ret2;exact ⟨v2,hv2,h2,rfl,s2,i2,t2⟩
 ·have HP:=hhh (show p.step x=(p,[],p.e) by unfold Jin.step;rw [if_pos he])
  have hmb:((p.e:Int) != 0)=true:=by simp;omega
  have HI:=hhh hi;generalize p.step x=PS at HP |-;clear hi hw hf he;go_enter Tryz.func165,Tryz.ntmps165;go_wp2_with (fail);go_quiet (fail);go_wp2;go_ret2;rw [HP.o];exact ⟨_,[],h,rfl,.bare _ rfl,HI.o,(Own.aA.refl HW.o).drewN _⟩
theorem aE5 (hi : p.Is b h) (hw : Own.Has w h) (hf : p.Fits) :
  Calls Tryz.prog 105 #[.pointer (some ⟨b,0,none⟩)] w (kZ p.fin b h w):=by
 obtain ⟨c26,-⟩:=hi.dN hw;have HW:=hhh hw;by_cases he:p.e=0
 ·obtain ⟨mv,hm,hl,hs,il,rfl⟩:=hi
  obtain ⟨O,hO⟩:∃ O,O=p.l.fin:=⟨_,rfl⟩
  have HP:=hhh (show p.fin=if ((p.on O.1).parts O.2.1 O.2.2).2.2=0 /\ ((p.on O.1).parts O.2.1 O.2.2).1.next ≠ 6 then (⟨((p.on O.1).parts O.2.1 O.2.2).1.l,((p.on O.1).parts O.2.1 O.2.2).1.depth,((p.on O.1).parts O.2.1 O.2.2).1.maps,((p.on O.1).parts O.2.1 O.2.2).1.next,3⟩,((p.on O.1).parts O.2.1 O.2.2).2.1,3) else (((p.on O.1).parts O.2.1 O.2.2).1,((p.on O.1).parts O.2.1 O.2.2).2.1,((p.on O.1).parts O.2.1 O.2.2).1.e) by
   unfold Jin.fin;rw [if_neg (by omega),hO])
  have HL:=hhh (aEr il hw.left hf.l);have HQ:=hhh (uN (b:=b) hf he O (by rw [hO];exact hf.l.fin.1) (by rw [hO];exact Lex.eM _) hs hw);rw [<- hO] at HL;generalize p.fin=PS at HP |-;generalize (p.on O.1).parts O.2.1 O.2.2=R at HP HQ;rw [he] at c26;clear hw hf hs il he hO;go_enter Tryz.func105,Tryz.ntmps105;go_wp2_with (fail);refine HL.o.mono ?_;rintro e1 w1 ⟨v,hv,hl',rfl,s1,i1,t1⟩;have HR:=hhh (HQ.o w1 v hv hl' s1 i1 t1);clear s1 i1 t1;go_wp2_with (fail);refine HR.o.mono ?_;rintro e2 w2 ⟨v2,hv2,h2,rfl,s2,i2,t2⟩;have S2:=hhh s2;have I2:=hhh i2;have T2:=hhh t2;have cn:=i2.aBs t2.has.right;obtain ⟨ce,fe⟩:=i2.dN t2.has.right;obtain ⟨l2,ps,e⟩:=R;simp only at HP S2 I2 T2 cn ce;clear s2 i2 t2;by_cases hc:e=0 /\ l2.next ≠ 6
  ·obtain ⟨rfl,hn⟩:=hc
   have hnb:((l2.next:Int) != 6)=true:=by simp;omega
   obtain ⟨h3,i3,t3⟩:=I2.o.aAy (Own.aA.refl T2.o.has.right) 3;have I3:=hhh i3;have T3:=hhh (T2.o.trans (t3.behind T2.o.has));have ce3:=(i3.dN t3.has).1;have HP2:=hhh (HP.o.trans (if_pos ⟨rfl,hn⟩));clear i3 t3;go_wp2_with (fail);go_quiet (fail);go_wp2;go_ret2;rw [HP2.o];exact ⟨_,hv2,h3,rfl,S2.o,I3.o,T3.o.drewN _⟩
  ·have HP2:=hhh (HP.o.trans (if_neg hc))
   by_cases h0:e=0
   ·subst h0
    have hn:(l2.next:Int)=6:=by
     by_cases h6:l2.next=6
     ·omega
     ·exact absurd ⟨rfl,h6⟩ hc
    rw [hn] at cn;clear hc;go_wp2_with (fail);go_quiet (fail);go_wp2;go_ret2;rw [HP2.o];exact ⟨_,hv2,h2,rfl,S2.o,I2.o,T2.o.drewN _⟩
   ·have hb:((e:Int) == 0)=false:=by rw [beq_eq_false_iff_ne];omega
    clear hc;go_wp2_with (fail);go_quiet (fail);go_wp2;go_ret2;rw [HP2.o];exact ⟨_,hv2,h2,rfl,S2.o,I2.o,T2.o.drewN _⟩
 ·have HP:=hhh (show p.fin=(p,[],p.e) by unfold Jin.fin;rw [if_pos he])
  have hmb:((p.e:Int) != 0)=true:=by simp;omega
  have HI:=hhh hi;generalize p.fin=PS at HP |-;clear hi hw hf he;go_enter Tryz.func105,Tryz.ntmps105;go_wp2_with (fail);go_quiet (fail);go_wp2;go_ret2;rw [HP.o];exact ⟨_,[],h,rfl,.bare _ rfl,HI.o,(Own.aA.refl HW.o).drewN _⟩
end
end Pip
end
section
namespace Pip
open Json (Part Wr)
def Reader.Fits:Reader -> Nat -> Prop
 | .json p,_=>p.Fits
 | .aY p,n=>p.Fits n
 | .pack p,n=>p.Fits n
theorem Reader.Fits.mono {r:Reader} {n m:Nat} (h:r.Fits n) (k:n <= m):r.Fits m:=by
 cases r with
 | json p=>exact h
 | aY p=>exact Cin.Fits.mono h k
 | pack p=>exact Pin.Fits.mono h k
structure Reader.Good (o:Reader × List Part × Nat) (n:Nat):Prop where
 fits:o.1.Fits n
 fine:∀ x ∈ o.2.1,Fine x
 few:o.2.1.length <= 18
theorem Jin.parts_len:∀ (l:List Tok) (p:Jin) (e:Nat),(p.parts l e).2.1.length <= l.length
 | [],p,e=>Nat.le_refl _
 | t :: l,p,e=>by
  unfold Jin.parts
  split
  ·exact Nat.zero_le _
  ·have h1:=Jin.parts_len l (p.token t).1 e
   have h2:(p.token t).2.toList.length <= 1:=by cases (p.token t).2 <;> simp
   simp only [List.length_append,List.length_cons]
   omega
theorem Jin.dP (p:Jin) (b:UInt8):(p.step b).2.1.length <= 2:=by
 unfold Jin.step;split
 ·exact Nat.zero_le _
 ·exact Nat.le_trans (Jin.parts_len _ _ _) (Lex.dP _ _)
theorem Jin.eM (p:Jin):p.fin.2.1.length <= 2:=by
 unfold Jin.fin;split
 ·exact Nat.zero_le _
 ·have h:=Nat.le_trans (Jin.parts_len p.l.fin.2.1 (p.on p.l.fin.1) p.l.fin.2.2) (Lex.eM _)
  dsimp only
  split <;> exact h
theorem Reader.eJ {r:Reader} {n:Nat} (h:r.Fits n) (b:UInt8):Reader.Good (r.step b) (n + 1):=by
 cases r with
 | json p =>
  have h:p.Fits:=h;exact ⟨(h.step b).1,h.aDj b,Nat.le_trans (Jin.dP p b) (by decide)⟩
 | aY p =>
  have h:p.Fits n:=h;have g:=(Cin.eJ h b).1;exact ⟨g.fits,g.fine,g.few⟩
 | pack p =>
  have h:p.Fits n:=h;have g:=(Pin.eJ h b).1;exact ⟨g.fits,g.fine,g.few⟩
theorem Reader.pW {r:Reader} {n:Nat} (h:r.Fits n):Reader.Good r.fin n:=by
 cases r with
 | json p =>
  have h:p.Fits:=h;exact ⟨h.fin.1,h.aEo,Nat.le_trans (Jin.eM p) (by decide)⟩
 | aY p=>exact ⟨h,(fun x hx=>by cases hx),Nat.zero_le _⟩
 | pack p=>exact ⟨h,(fun x hx=>by cases hx),Nat.zero_le _⟩
theorem Reader.Fits.new (f:Int) (d:Nat) (h:d <= 16):(Reader.new f d).Fits 0:=by
 unfold Reader.new;split
 ·exact Jin.Fits.new d h
 ·split
  ·exact Cin.Fits.new d h
  ·exact Pin.Fits.new d h
def Writer.kind:Writer -> Nat
 | .json _=>1
 | .aY _=>2
 | .pack _=>3
def Writer.Fits:Writer -> Nat -> Prop
 | .json w,n=>w.opened.length <= n /\ ∀ c ∈ w.opened,c.parts <= n
 | .aY w,n=>w.Fits n
 | .pack w,n=>w.Fits n
theorem Writer.Fits.mono {w:Writer} {n m:Nat} (h:w.Fits n) (k:n <= m):w.Fits m:=by
 cases w with
 | json p=>exact ⟨Nat.le_trans h.1 k,fun c hc=>Nat.le_trans (h.2 c hc) k⟩
 | aY p=>exact Cw.Fits.mono h k
 | pack p=>exact Cw.Fits.mono h k
theorem Writer.lT (text:Part -> List UInt8) (w:Writer) (p:Part):(w.step text p).2.2.kind=w.kind:=by
 cases w <;> rfl
theorem tS {w:Wr} {n:Nat} (h:w.opened.length <= n /\ ∀ c ∈ w.opened,c.parts <= n) (text:Part -> List UInt8) (p:Part):(w.step text p).2.2.opened.length <= n + 1 /\ ∀ c ∈ (w.step text p).2.2.opened,c.parts <= n + 1:=by
 have h':w.opened.length <= n + 1 /\ ∀ c ∈ w.opened,c.parts <= n + 1:=⟨Nat.le_succ_of_le h.1,fun c hc=>Nat.le_succ_of_le (h.2 c hc)⟩;have hd:∀ x ∈ w.opened.dropLast,x.parts <= n + 1:=fun x hx=>h'.2 x ((List.dropLast_sublist _).subset hx)
 have hlen:w.opened.dropLast.length <= n:=by have:=h.1;simp;omega
 unfold Wr.step;split
 ·exact h'
 ·cases p with
  | close =>
   dsimp only
   split
   ·exact h'
   ·split
    ·exact h'
    ·exact ⟨by show w.opened.dropLast.length <= _;omega,hd⟩
  | _ =>
   dsimp only
   split
   ·first
    | exact ⟨Nat.zero_le _,fun c hc=>by cases hc⟩
    | exact ⟨by simp,fun c hc=>by rw [List.mem_singleton.1 hc];exact Nat.zero_le _⟩
   ·rename_i c hc
    have hm:c ∈ w.opened:=List.mem_of_getLast? hc;have hcn:=h.2 c hm;have hpos:0 < w.opened.length:=List.length_pos_of_mem hm;have hd1:=h.1;split
    ·exact h'
    ·refine ⟨by simp;omega,fun x hx=>?_⟩
     simp only [List.mem_append,List.mem_singleton] at hx;rcases hx with hx | hx
     all_goals first
      | exact hd x hx
      | (subst hx;show c.parts + 1 <= _;omega)
      | skip
     all_goals first
      | (rcases hx with hx | hx <;> first | exact hd x hx | (subst hx;show c.parts + 1 <= _;omega))
      | (subst hx;exact Nat.zero_le _)
theorem Writer.Fits.step {w:Writer} {n:Nat} (h:w.Fits n) (text:Part -> List UInt8) (p:Part) (hp:Fine p):(w.step text p).2.2.Fits (n + 1):=by
 cases w with
 | json p=>exact tS h text _
 | aY p=>exact Cw.Fits.aY h _ hp
 | pack p=>exact Cw.Fits.pack h _ hp
theorem Writer.Fits.new (f:Int):(Writer.new f).Fits 0:=by
 unfold Writer.new;split
 ·exact ⟨Nat.le_refl _,fun c hc=>by cases hc⟩
 ·split
  ·exact Cw.Fits.new
  ·exact Cw.Fits.new
theorem Writer.gY (text:Part -> List UInt8):∀ (l:List Part) (w:Writer),(w.some text l).2.2.kind=w.kind
 | [],w=>rfl
 | p :: l,w=>by
  unfold Writer.some
  split
  ·exact Writer.lT text w p
  ·exact (Writer.gY text l _).trans (Writer.lT text w p)
theorem Writer.Fits.some (text:Part -> List UInt8):∀ (l:List Part) {w:Writer} {n:Nat},w.Fits n -> (∀ p ∈ l,Fine p) -> (w.some text l).2.2.Fits (n + l.length)
 | [],w,n,h,_=>h
 | p :: l,w,n,h,hl=>by
  have h1:=h.step text p (hl p mcs)
  unfold Writer.some
  split
  ·exact h1.mono (by simp only [List.length_cons];omega)
  ·exact (Writer.Fits.some text l h1 fun q hq=>hl q (mcm _ hq)).mono (by simp only [List.length_cons];omega)
def Pp.bJ (p:Pp):Nat:=match p.hold with | none=>0 | some s=>s.held.length
structure Pp.Fits (p:Pp) (n:Nat):Prop where
 input:p.input.Fits n
 hold:∀ s,p.hold=some s -> s.Fits
 output:∃ m,p.output.Fits m /\ m + p.bJ <= n
 kind:p.hold.isSome=(p.output.kind == 3)
theorem Pp.Fits.mono {p:Pp} {n m:Nat} (h:p.Fits n) (k:n <= m):p.Fits m :=
 ⟨h.input.mono k,h.hold,by obtain ⟨j,h1,h2⟩:=h.output;exact ⟨j,h1,by omega⟩,h.kind⟩
theorem Pp.Fits.out {p:Pp} {n:Nat} (h:p.Fits n):p.output.Fits n:=by
 obtain ⟨j,h1,h2⟩:=h.output;exact h1.mono (by omega)
theorem Pp.Fits.one {p:Pp} {n:Nat} (h:p.Fits n) (text:Part -> List UInt8) (v:Part) (hv:Fine v):(p.one text v).1.Fits (n + 1):=by
 obtain ⟨j,h1,h2⟩:=h.output;have hk:=h.kind;unfold Pp.bJ at h2;unfold Pp.one
 cases hh:p.hold with
 | none =>
  rw [hh] at h2 hk;simp only at h2 |-;exact ⟨h.input.mono (Nat.le_succ _),(fun s hs=>by cases hs),⟨j + 1,h1.some text [v] fun q hq=>by rw [List.mem_singleton.1 hq];exact hv,by show j + 1 + 0 <= n + 1;omega⟩,by simp only [Writer.gY];exact hk⟩
 | some s =>
  rw [hh] at h2 hk;simp only at h2 |-;have g:=(h.hold s hh).step v hv;have hf:=g.few;split
  ·exact ⟨h.input.mono (Nat.le_succ _),(fun x hx=>by cases hx;exact g.fits),⟨j,h1,by show j + (s.step v).1.held.length <= n + 1;omega⟩,hk⟩
  ·exact ⟨h.input.mono (Nat.le_succ _),(fun x hx=>by cases hx;exact g.fits),⟨j + (s.step v).2.1.length,h1.some text _ g.fine,by show j + (s.step v).2.1.length + (s.step v).1.held.length <= n + 1;omega⟩,by simp only [Writer.gY];exact hk⟩
def Pp.ahead (text:Part -> List UInt8):Pp -> List Part -> Pp × List UInt8
 | p,[]=>(p,[])
 | p,v :: l=>(((p.one text v).1.ahead text l).1,(p.one text v).2 ++ ((p.one text v).1.ahead text l).2)
theorem Pp.eV (text:Part -> List UInt8) (l:List Part) (v:Part):∀ p:Pp,p.ahead text (l ++ [v])=(((p.ahead text l).1.one text v).1,(p.ahead text l).2 ++ ((p.ahead text l).1.one text v).2):=by
 induction l with
 | nil=>intro p;simp [Pp.ahead]
 | cons x l ih=>intro p;simp [Pp.ahead,ih]
theorem Pp.mL (text : Part → List UInt8) (l : List Part) (e k : Nat) (p : Pp) (hk : ∀ j, j < k → (p.ahead text (l.take (j + 1))).1.e = 0) (hkl : k ≤ l.length) :
  p.write text l e=(((p.ahead text (l.take k)).1.write text (l.drop k) e).1,(p.ahead text (l.take k)).2 ++ ((p.ahead text (l.take k)).1.write text (l.drop k) e).2.1,((p.ahead text (l.take k)).1.write text (l.drop k) e).2.2):=by
 induction k generalizing p l with
 | zero=>simp [Pp.ahead]
 | succ k ih =>
  cases l with
  | nil=>simp at hkl
  | cons t l =>
   have h0:(p.one text t).1.e=0:=by
    have:=hk 0 (by omega);simpa [Pp.ahead] using this
   have:=ih l (p.one text t).1 (fun j hj=>by
    have:=hk (j + 1) (by omega)
    simpa [Pp.ahead] using this) (by simp at hkl;omega)
   rw [Pp.write,if_neg (by simp [h0]),this];simp [Pp.ahead]
theorem Pp.Fits.ahead (text:Part -> List UInt8):∀ (l:List Part) {p:Pp} {n:Nat},p.Fits n -> (∀ v ∈ l,Fine v) -> (p.ahead text l).1.Fits (n + l.length)
 | [],p,n,h,_=>h
 | v :: l,p,n,h,hl=>(Pp.Fits.ahead text l (h.one text v (hl v mcs)) fun q hq=>hl q (mcm _ hq)).mono (by simp only [List.length_cons];omega)
theorem Pp.Fits.write (text:Part -> List UInt8) (e:Nat):∀ (l:List Part) {p:Pp} {n:Nat},p.Fits n -> (∀ v ∈ l,Fine v) -> (p.write text l e).1.Fits (n + l.length)
 | [],p,n,h,_=>⟨h.input,h.hold,h.output,h.kind⟩
 | v :: l,p,n,h,hl=>by
  have h1:=h.one text v (hl v mcs)
  unfold Pp.write
  split
  ·exact h1.mono (by simp only [List.length_cons];omega)
  ·exact (Pp.Fits.write text e l h1 fun q hq=>hl q (mcm _ hq)).mono (by simp only [List.length_cons];omega)
theorem Pp.Fits.on {p:Pp} {n m:Nat} (h:p.Fits n) (k:n <= m) {r:Reader} (hr:r.Fits m) (o:Bool):(Pp.mk r p.output p.hold o p.e).Fits m:=by
 obtain ⟨j,h1,h2⟩:=h.output;exact ⟨hr,h.hold,⟨j,h1,Nat.le_trans h2 k⟩,h.kind⟩
theorem Pp.Fits.step {p:Pp} {n:Nat} (h:p.Fits n) (text:Part -> List UInt8) (b:UInt8):(p.step text b).1.Fits (n + 19):=by
 unfold Pp.step;split
 ·exact h.mono (by omega)
 ·have g:=Reader.eJ h.input b
  have:=g.few;exact ((h.on (Nat.le_succ n) g.fits p.over).write text _ _ g.fine).mono (by omega)
theorem Pp.Fits.new (s:Setup) (hr:right s=true):(Pp.new s).Fits 0:=by
 unfold right at hr;simp only [Bool.and_eq_true,decide_eq_true_eq] at hr;obtain ⟨⟨⟨⟨⟨⟨⟨⟨⟨r1,r2⟩,r3⟩,r4⟩,r5⟩,r6⟩,r7⟩,r8⟩,r9⟩,r10⟩:=hr;refine ⟨Reader.Fits.new _ _ (by omega),?_,?_,?_⟩
 ·intro t ht
  unfold Pp.new at ht;simp only at ht;split at ht
  ·cases ht;exact Stg.Fits.new _ (by omega)
  ·cases ht
 ·refine ⟨0,Writer.Fits.new _,?_⟩
  unfold Pp.bJ Pp.new;simp only;split
  ·exact Nat.le_refl _
  ·rename_i t ht
   split at ht
   ·cases ht;exact Nat.le_refl _
   ·cases ht
 ·unfold Pp.new Writer.new
  simp only;by_cases h3:s.to=3
  ·rw [if_pos h3,if_neg (by omega),if_neg (by omega)];rfl
  ·rw [if_neg h3]
   split
   ·rfl
   ·rw [if_pos (by omega)];rfl
end Pip
end
section
open Go.RowKit
open Json (Part)
namespace Pip
section
variable {p:Jin} {b:Nat} {h:Own.Heap} {w:World}
end
theorem aEk (d : Nat) (h1 : 1 ≤ d) (h16 : d ≤ 16) (w : World) :
  Calls Tryz.prog 98 #[.int .i64 (d:Int)] w fun e w'=>∃ b h,e = .returned (.pointer (some ⟨b,0,none⟩)) /\ (Jin.new d).Is b h /\ Own.aA [] h w w':=by
 have hI:=hhh (show (Jin.new d).Is w.heap.size (Own.row w.heap.size 190 ((Jin.new d).l.cells (.pointer none) (.slice none 0 0) ++ [.int .i64 (d:Int),.slice none 0 0,.int .i64 0,.int .i64 0]) :: []) from
  ⟨.slice none 0 0,[],[_],.bare _ rfl,⟨rfl,_,_,[],.inl rfl,.none rfl,rfl⟩,rfl⟩)
 have hT:=hhh ((Own.aA.refl (Own.Has.nil w)).alloc (.cells ((Jin.new d).l.cells (.pointer none) (.slice none 0 0) ++ ([.int .i64 (d:Int),.slice none 0 0,.int .i64 0,.int .i64 0]:List Value)).toArray 190));have l1:¬ (d:Int) < 1:=by omega
 have l2:¬ 16 < (d:Int):=by omega
 have l3:(d:Int) <= 16:=by omega
 clear h1 h16;go_enter Tryz.func98,Tryz.ntmps98;go_wp2;go_ret;exact ⟨_,rfl,_,hI.o,hT.o⟩
end Pip
end
section
open Go.RowKit
open Json (Part)
namespace Pip
def bQ (l:List Crt):List Value:=l.flatMap fun c=>[.bool c.pairs,.int .i64 c.count,.int .i64 (c.parts:Int)]
theorem fJ (l r:List Crt):bQ (l ++ r)=bQ l ++ bQ r:=by simp [bQ]
theorem bR (l:List Crt):(bQ l).length=l.length * 3:=by
 induction l with
 | nil=>rfl
 | cons c l ih=>rw [bQ,List.flatMap_cons,List.length_append];rw [bQ] at ih;rw [ih];simp;omega
theorem uD (c:Crt):bQ [c]=[.bool c.pairs,.int .i64 c.count,.int .i64 (c.parts:Int)]:=rfl
def u8s (l:List UInt8):List Value:=l.map fun b=>.int .u8 (b.toNat:Int)
theorem iG (l:List UInt8):(u8s l).length=l.length:=List.length_map ..
theorem yZ (l r:List UInt8):u8s (l ++ r)=u8s l ++ u8s r:=List.map_append ..
def Core.cells (c:Core) (ov sv:Value):List Value :=
 [.int .i64 (c.depth:Int),ov,.bool c.done,.int .i64 (c.e:Int),.bool c.word,.bool c.chunks,.int .i64 (c.lack:Int),sv] ++ c.c.enc
def Core.Is (c:Core) (T:TypeId) (b:Nat) (post:List Value) (h:Own.Heap):Prop :=
 ∃ ov sv ho hs,Own.Slk 3 301 c.opened.length (bQ c.opened) ov ho /\ Own.Slc 5 (u8s c.s) sv hs /\ h=Own.row b T (c.cells ov sv ++ post) :: (ho ++ hs)
def bM (o:Core × List Part) (T:TypeId) (b:Nat) (post:List Value) (h:Own.Heap) (w:World) (e:Ending) (w':World):Prop :=
 ∃ v hv h',e = .returned v /\ Own.Slc 20 (aG o.2) v hv /\ o.1.Is T b post h' /\ Own.aA h (hv ++ h') w w'
section
variable {c:Core} {T:TypeId} {b:Nat} {post:List Value} {h:Own.Heap} {w:World}
theorem bM.bF {o:Core × List Part} {h':Own.Heap} {w':World} (h2:o.2=[]) (hI:o.1.Is T b post h') (t:Own.aA h h' w w'):bM o T b post h w (.returned (.slice none 0 0)) w':=by
 refine ⟨_,[],h',rfl,?_,hI,t⟩;rw [h2];exact .bare _ rfl
theorem Core.Is.cL (hi : c.Is T b post h) : ∃ oa oc sa sc ho hs, h = Own.row b T (c.cells (.slice oa c.opened.length oc) (.slice sa c.s.length sc) ++ post) :: (ho ++ hs) ∧
  Own.Slk 3 301 c.opened.length (bQ c.opened) (.slice oa c.opened.length oc) ho /\ Own.Slc 5 (u8s c.s) (.slice sa c.s.length sc) hs:=by
 obtain ⟨ov,sv,ho,hs,h1,h2,rfl⟩:=hi;obtain ⟨oa,oc,rfl⟩:=h1.len;obtain ⟨sa,sc,rfl⟩:=h2.len;rw [iG] at h2 |-;exact ⟨oa,oc,sa,sc,ho,hs,rfl,h1,h2⟩
theorem Core.Is.last (hi : c.Is T b post h) (L : List Crt) (t : Crt) (hl : c.opened = L ++ [t]) :
  ∃ ob m spare sa sc hs, h = Own.row b T (c.cells (.slice (some ⟨ob, 0, none⟩) (L.length + 1) (L.length + 1 + m)) (.slice sa c.s.length sc) ++ post) ::
    (Own.row ob 301 (bQ L ++ ([.bool t.pairs,.int .i64 t.count,.int .i64 (t.parts:Int)] ++ spare)) :: hs) /\
   spare.length=m * 3 /\ L.length + 1 + m <= maxLen /\ Own.Slc 5 (u8s c.s) (.slice sa c.s.length sc) hs:=by
 obtain ⟨oa,oc,sa,sc,ho,hs,rfl,h1,h2⟩:=hi.cL;rw [hl,List.length_append,List.length_singleton,fJ] at h1;obtain ⟨ob,m,spare,e1,rfl,h3,h4⟩:=h1.at_ (by omega);injection e1 with e2 e3 e4
 subst e2 e4;refine ⟨ob,m,spare,sa,sc,hs,?_,h3,h4,h2⟩;rw [hl,List.length_append,List.length_singleton,List.append_assoc];rfl
theorem Core.Is.of (c : Core) (T : TypeId) (b : Nat) (post : List Value) {ob m : Nat} {spare : List Value} {sv : Value} {hs : Own.Heap} (h1 : spare.length = m * 3) (h2 : c.opened.length + m ≤ maxLen) (h3 : Own.Slc 5 (u8s c.s) sv hs) :
  c.Is T b post (Own.row b T (c.cells (.slice (some ⟨ob,0,none⟩) c.opened.length (c.opened.length + m)) sv ++ post) :: (Own.row ob 301 (bQ c.opened ++ spare) :: hs)) :=
 ⟨_,_,[_],hs,.row ob m spare (bR _) h1 h2,h3,rfl⟩
theorem Core.Is.cell (hi : c.Is T b post h) (hw : Own.Has w h) : w.cell? ⟨b, 3, none⟩ = some (.int .i64 (c.e : Int)) ∧ w.cell? ⟨b, 2, none⟩ = some (.bool c.done) ∧ w.cell? ⟨b, 4, none⟩ = some (.bool c.word) ∧ w.cell? ⟨b, 5, none⟩ = some (.bool c.chunks) ∧
  w.cell? ⟨b,6,none⟩=some (.int .i64 (c.lack:Int)):=by
 obtain ⟨ov,sv,ho,hs,h1,h2,rfl⟩:=hi;exact ⟨hw.cell b _ _ mcs 3 _ rfl,hw.cell b _ _ mcs 2 _ rfl,hw.cell b _ _ mcs 4 _ rfl,hw.cell b _ _ mcs 5 _ rfl,hw.cell b _ _ mcs 6 _ rfl⟩
theorem Core.Is.free (hi:c.Is T b post h) (hw:Own.Has w h) (j:Nat):w.frozen? ⟨b,j,none⟩=false:=by
 obtain ⟨ov,sv,ho,hs,h1,h2,rfl⟩:=hi;exact hw.free b _ _ mcs j
theorem Core.Is.fS (hi:c.Is T b post h) (hw:Own.Has w h) (j:Nat) (v:Value) (hj:post[j]? = some v):w.cell? ⟨b,12 + j,none⟩=some v:=by
 obtain ⟨ov,sv,ho,hs,h1,h2,rfl⟩:=hi;refine hw.cell b _ _ mcs (12 + j) v ?_;rw [List.getElem?_append_right (by simp [Core.cells,Esc.Chk.enc])];simpa [Core.cells,Esc.Chk.enc] using hj
theorem Core.Is.aDr (hi : c.Is T b post h) {a0 : Own.Heap} {u : World} (t : Own.aA a0 h u w) (j : Nat) (v : Value) (hj : j < post.length) :
  ∃ h',c.Is T b (post.set j v) h' /\ Own.aA a0 h' u (w.setCell ⟨b,12 + j,none⟩ v):=by
 obtain ⟨ov,sv,ho,hs,h1,h2,rfl⟩:=hi;have t':=t.set (12 + j) v (by simp [Core.cells,Esc.Chk.enc];omega);have e:(c.cells ov sv ++ post).set (12 + j) v=c.cells ov sv ++ post.set j v:=by
  rw [List.set_append_right _ _ (by simp [Core.cells,Esc.Chk.enc])];simp [Core.cells,Esc.Chk.enc]
 rw [e] at t';exact ⟨_,⟨ov,sv,ho,hs,h1,h2,rfl⟩,t'⟩
theorem Core.Is.aAy (hi : c.Is T b post h) {a0 : Own.Heap} {u : World} (t : Own.aA a0 h u w) (e : Nat) :
  ∃ h',(c.fail e).1.Is T b post h' /\ Own.aA a0 h' u (w.setCell ⟨b,3,none⟩ (.int .i64 (e:Int))):=by
 obtain ⟨ov,sv,ho,hs,h1,h2,rfl⟩:=hi;exact ⟨_,⟨ov,sv,ho,hs,h1,h2,rfl⟩,t.put 3 _ _ rfl⟩
theorem Core.Is.aB7 (hi : c.Is T b post h) {a0 : Own.Heap} {u : World} (t : Own.aA a0 h u w) (wd ch : Bool) :
  ∃ h',(Core.mk c.depth c.opened c.done c.e wd ch c.lack c.s c.c).Is T b post h' /\ Own.aA a0 h' u ((w.setCell ⟨b,5,none⟩ (.bool ch)).setCell ⟨b,4,none⟩ (.bool wd)):=by
 obtain ⟨ov,sv,ho,hs,h1,h2,rfl⟩:=hi;exact ⟨_,⟨ov,sv,ho,hs,h1,h2,rfl⟩,(t.put 5 (.bool ch) _ rfl).put 4 (.bool wd) _ rfl⟩
end
end Pip
end
section
open Go.RowKit
open Json (Part)
namespace Pip
section
variable {c:Core} {T:TypeId} {b:Nat} {post:List Value} {h:Own.Heap} {w:World}
theorem cP (hi : c.Is T b post h) (hw : Own.Has w h) (e : Nat) :
  Calls Tryz.prog 200 #[.pointer (some ⟨b,0,none⟩),.int .i64 (e:Int)] w (bM (c.fail e) T b post h w):=by
 obtain ⟨c3,-⟩:=hi.cell hw;have f3:=hi.free hw 3;obtain ⟨h',i',t'⟩:=hi.aAy (Own.aA.refl hw) e;have HI:=hhh i';have HT:=hhh t';clear hi hw i' t';go_enter Tryz.func200,Tryz.ntmps200;go_wp2;go_ret;exact .bF rfl HI.o HT.o
theorem sL (hi : c.Is T b post h) (hw : Own.Has w h) :
  Calls Tryz.prog 210 #[.pointer (some ⟨b,0,none⟩)] w fun e w'=>e = .returned (.bool c.done) /\ w=w':=by
 obtain ⟨-,c2,-⟩:=hi.cell hw;clear hi hw;go_enter Tryz.func210,Tryz.ntmps210;go_wp2;go_ret;exact ⟨rfl,rfl⟩
theorem pL (hi : c.Is T b post h) (hw : Own.Has w h) :
  Calls Tryz.prog 195 #[.pointer (some ⟨b,0,none⟩)] w fun e w'=>e = .returned (.bool (decide (0 < c.lack))) /\ w=w':=by
 obtain ⟨-,-,-,-,c6⟩:=hi.cell hw;clear hi hw;go_enter Tryz.func195,Tryz.ntmps195;go_wp2;go_ret;exact ⟨rfl,rfl⟩
theorem rU (hi : c.Is T b post h) (hw : Own.Has w h) :
  Calls Tryz.prog 214 #[.pointer (some ⟨b,0,none⟩)] w fun e w'=>e = .returned (.bool c.full) /\ Own.aA h h w w':=by
 have HT:=hhh (Own.aA.refl hw);obtain ⟨oa,oc,sa,sc,ho,hs,rfl,h1,h2⟩:=hi.cL;have c0:=hw.cell b _ _ mcs 0 _ rfl;have c1:=hw.cell b _ _ mcs 1 _ rfl;clear hi hw h1 h2;go_enter Tryz.func214,Tryz.ntmps214;go_wp2;go_quiet (fail);go_wp2;go_ret;exact ⟨rfl,HT.o.drewN _⟩
theorem sZ (hi : c.Is T b post h) (hw : Own.Has w h) :
  Calls Tryz.prog 116 #[.pointer (some ⟨b,0,none⟩)] w fun e w'=>e = .returned (.int .i64 (c.over:Int)) /\ w=w':=by
 obtain ⟨c3,c2,-⟩:=hi.cell hw;have HP:=hhh (show c.over=if c.e=0 /\ c.done=false then 3 else c.e from rfl);generalize c.over=O at HP |-;generalize c.done=D at *
 generalize c.e=E at *
 clear hi hw;rcases Nat.eq_zero_or_pos E with h0 | h0
 ·subst h0
  cases D
  all_goals
   go_enter Tryz.func116,Tryz.ntmps116;go_wp2;go_ret;exact ⟨by rw [HP.o];rfl,rfl⟩
 ·have hne:((E:Int) == 0)=false:=by rw [beq_eq_false_iff_ne];omega
  have HQ:=hhh (show O=E by rw [HP.o,if_neg (by omega)]);clear HP;go_enter Tryz.func116,Tryz.ntmps116;go_wp2;go_ret;exact ⟨by rw [HQ.o];rfl,rfl⟩
theorem aEs (k:Nat):((k:Int)).tmod 2=((k % 2:Nat):Int):=by rw [Int.tmod_eq_emod_of_nonneg (by omega)];omega
theorem yC (k:Nat):((k:Int)) % 2=((k % 2:Nat):Int):=by omega
theorem aHq (k:Nat):((k:Int)).tdiv 2=((k / 2:Nat):Int):=by rw [Int.tdiv_eq_ediv_of_nonneg (by omega)];omega
theorem aEx (k:Nat):((k:Int)) / 2=((k / 2:Nat):Int):=by omega
theorem pZ {n : Nat} (hi : c.Is T b post h) (hw : Own.Has w h) (hf : c.Fits n) :
  Calls Tryz.prog 212 #[.pointer (some ⟨b,0,none⟩)] w fun e w'=>e = .returned (.bool c.atKey) /\ Own.aA h h w w':=by
 have HT:=hhh (Own.aA.refl hw);have hd:=hf.deep;have hd2:=hf.depth;rcases List.eq_nil_or_concat c.opened with h0 | ⟨L,t,h0⟩
 ·have HP:=hhh (show c.atKey=false by unfold Core.atKey;rw [h0];rfl)
  obtain ⟨oa,oc,sa,sc,ho,hs,rfl,h1,h2⟩:=hi.cL;have c1:=hw.cell b _ _ mcs 1 _ rfl;rw [h0] at c1;simp only [List.length_nil] at c1;clear hi hw h1 h2 hf;go_enter Tryz.func212,Tryz.ntmps212;go_wp2;go_ret;exact ⟨by rw [HP.o];rfl,HT.o⟩
 ·rw [List.concat_eq_append] at h0
  have HP:=hhh (show c.atKey=(t.pairs && decide (t.parts % 2=0)) by unfold Core.atKey;rw [h0];simp);have hp:=(hf.aW t (by rw [h0];simp)).parts;have hN1:L.length < 16:=by rw [h0] at hd;simp at hd;omega
  obtain ⟨ob,m,spare,sa,sc,hs,rfl,h1,h2,h3⟩:=hi.last L t h0;have c1:=hw.cell b _ _ mcs 1 _ rfl;have d0:=hw.cell ob _ _ (mcm _ mcs) (L.length * 3) (.bool t.pairs) (by rw [<- bR,List.getElem?_append_right (by omega)];simp);have d2:=hw.cell ob _ _ (mcm _ mcs) (L.length * 3 + 2) (.int .i64 (t.parts:Int)) (by rw [<- bR,List.getElem?_append_right (by omega)];simp);generalize L.length=K at *
  obtain ⟨y,ct,k⟩:=t;simp only at *
  have e1:=aEs k;have e2:=yC k;have hlt:=Nat.mod_lt k (show 0 < 2 by omega);generalize k % 2=r at e1 e2 HP hlt;clear hi hw h1 h2 h3 hf h0 hd
  cases y
  ·go_enter Tryz.func212,Tryz.ntmps212
   go_wp2;go_ret;exact ⟨by rw [HP.o];rfl,HT.o⟩
  ·obtain rfl | rfl:r=0 \/ r=1:=by omega
   all_goals
    go_enter Tryz.func212,Tryz.ntmps212;go_wp2;go_ret;exact ⟨by rw [HP.o];rfl,HT.o⟩
end
theorem aCz (t : Crt) (hk : t.parts ≤ 2000000) (w : World) :
  Calls Tryz.prog 215 #[.agg #[.bool t.pairs,.int .i64 t.count,.int .i64 (t.parts:Int)]] w fun e w'=>e = .returned (.bool t.fits) /\ Below w.heap.size w w':=by
 have B0:=hhh (fun o=>(Below.refl w.heap.size w).alloc (Nat.le_refl _) o);obtain ⟨y,ct,k⟩:=t;simp only at hk;have HP0:(Crt.mk y ct k).fits=if y then decide (k % 2=0) && ((k / 2:Nat):Int) == ct else (k:Int) == ct:=rfl
 generalize (Crt.mk y ct k).fits=F at HP0 |-;have e1:=aEs k;have e2:=yC k;have e3:=aHq k;have e4:=aEx k;have hlt:=Nat.mod_lt k (show 0 < 2 by omega);have hwq:wrap64 ((k / 2:Nat):Int)=((k / 2:Nat):Int):=by unfold wrap64;omega
 generalize k % 2=r at e1 e2 HP0 hlt;generalize k / 2=q at e3 e4 HP0 hwq;clear hk;simp only
 cases y
 ·have HP:=hhh (show F=((k:Int) == ct) by rw [HP0];rfl)
  clear HP0;go_enter Tryz.func215,Tryz.ntmps215;go_wp2;go_ret;exact ⟨by rw [HP.o];rfl,B0.o _⟩
 ·obtain rfl | rfl:r=0 \/ r=1:=by omega
  ·have HP:=hhh (show F=((q:Int) == ct) by rw [HP0];simp)
   clear HP0;go_enter Tryz.func215,Tryz.ntmps215;go_wp2;go_ret;exact ⟨by rw [HP.o];rfl,B0.o _⟩
  ·have HP:=hhh (show F=false by rw [HP0];simp)
   clear HP0;go_enter Tryz.func215,Tryz.ntmps215;go_wp2;go_ret;exact ⟨by rw [HP.o];rfl,B0.o _⟩
end Pip
end
section
open Go.RowKit
open Json (Part)
namespace Own
theorem aX (w:World) (a:Addr) (v:Value):(w.setCell a v).heap.size=w.heap.size:=by simp [World.setCell]
theorem aA.aQ {a b:Heap} {u v:World} (h:aA a b u v) (k:Nat) (hk:v.heap.size=k) (T:TypeId) (l:List Value):aA a (row k T l :: b) u (v.alloc (.cells l.toArray T)):=h.aZ k hk _
theorem bN {P : Program} {w : World} {ops : Array Oper} {rest : List Oper} {o : Oper} {a : Act} {Q : Exit → Act → World → Prop} (k : Nat) (hk : w.heap.size = k) (hgd : o.guard = none) (s x : Operand) (t : TypeId)
  (ho:o.op = .call { callee:=.builtin .append,args:=#[s,x],argTypes:=#[t,t] })
  (e:TypeId) (i:TypeInfo) (z:Value) (bytes:Nat) (ht:P.underlying t=some (.slice e)) (hi:P.info? e=some i) (hz:i.zero=some z)
  (hsize:i.size=1) (hby:i.bytes=bytes) (hzs:z.cells.size=1)
  (v:Value) (xs:List Value) (n:Nat) (hn:xs.length=n) (h R:Heap) (hs:a.eval s=v) (hv:Slc e xs v h) (hw:Has w (h ++ R)) (y:Value) (hx:a.eval x = .slice (some ⟨k,0,none⟩) 1 1) (hy:y.oneCell'=true)
  (h63:n + 1 <= maxLen) (hbytes:(n + 1) * bytes <= 140737488355328)
  (hK:∀ ad' c' h' w',Slc e (xs ++ [y]) (.slice ad' (n + 1) c') h' -> aA (h ++ R) (h' ++ R) w w' -> wpList P ops Q rest (a.put o.dst (.slice ad' (n + 1) c')) w') :
  wpList P ops Q (o :: rest) a (w.alloc (.cells #[y] e)):=by
 subst hk;exact bB hgd s x t ho e i z bytes ht hi hz hsize hby hzs v xs n hn h R hs hv hw y hx hy h63 hbytes hK
end Own
namespace Pip
def lenSl:Value -> Nat
 | .slice _ n _=>n
 | _=>0
theorem up_nil:up []=([],0):=rfl
theorem aF9 (t:Crt) (r:List Crt) (h:(Crt.mk t.pairs t.count (t.parts + 1)).fits=true):up (t :: r)=((up r).1,(up r).2 + 1):=by rw [up,if_pos h]
theorem aG5 (t:Crt) (r:List Crt) (h:(Crt.mk t.pairs t.count (t.parts + 1)).fits=false):up (t :: r)=(⟨t.pairs,t.count,t.parts + 1⟩ :: r,0):=by rw [up,if_neg (by rw [h];exact Bool.false_ne_true)]
theorem _root_.Go.Proofs.YtfheacchdfdeiaaGreat.Own.aA.flip {a l r:Own.Heap} {u v:World} (h:Own.aA a (l ++ r) u v):Own.aA a (r ++ l) u v:=h.perm (.refl _) List.perm_append_comm
def Core.dR (c:Core) (L:List Crt) (d:Bool):Core:=⟨c.depth,L,d,c.e,c.word,c.chunks,c.lack,c.s,c.c⟩
section
variable {c:Core} {T:TypeId} {b:Nat} {post:List Value} {h:Own.Heap} {w:World}
theorem dL {n : Nat} (hi : c.Is T b post h) (hw : Own.Has w h) (hf : c.Fits n) (hn : n ≤ 1000000) (v : Part) :
  Calls Tryz.prog 207 #[.pointer (some ⟨b,0,none⟩),v.val] w (bM (c.value v) T b post h w):=by
 obtain ⟨i0,hi0,e0⟩:=Option.map_eq_some_iff.1 infoAny;simp only [Prod.mk.injEq] at e0;obtain ⟨hz,hsz,hby⟩:=e0;have Hi:=hhh (And.intro hi0 (And.intro hz (And.intro hsz hby)));have HW:=hhh hw;have HI:=hhh hi;have hd16:c.opened.length <= 16:=Nat.le_trans hf.deep hf.depth;have HD:=hhh hd16;have HPa:=hhh (fun t (ht:t ∈ c.opened)=>(hf.aW t ht).parts);have HN:=hhh hn;have HB1:=hhh (fun o=>(Own.aA.refl hw).alloc o);clear hi hw hf hd16 hi0 hz hsz hby hn;have hv1:∀ V,V=v.val -> Own.Slc 20 (aG [v]) (.slice (some ⟨w.heap.size,0,none⟩) 1 1) [Own.row w.heap.size 20 [V]]:=fun V hV=>by
  subst hV;exact Own.Slc.row (e:=20) (xs:=aG [v]) w.heap.size [] [] (by show (1:Nat) <= maxLen;decide)
 have HS1:=hhh hv1;clear hv1;have HL0:=hhh (show c.dR c.opened c.done=c from rfl);rcases eF v with hY | ⟨T0,y0,hY⟩
 all_goals
  have HY:=hhh hY;rw [hY];clear hY;go_enter Tryz.func207,Tryz.ntmps207;go_wp2
  go_loopw [5] (fun o wr => ∃ (j : Nat) (L : List Crt) (ho hj : Own.Heap), Own.Slc 20 (aG (v :: List.replicate j Part.close)) o ho ∧ (c.dR L c.done).Is T b post hj ∧ Own.aA h (ho ++ hj) w wr ∧
    L.length <= 16 /\ j + L.length=c.opened.length /\ Hid ((∀ t ∈ L,t ∈ c.opened) /\ (up c.opened.reverse).1=(up L.reverse).1 /\ (up c.opened.reverse).2=(up L.reverse).2 + j)) (fun o _=>100 - lenSl o)
  case atStart=>exact ⟨0,c.opened,[_],h,HS1.o _ HY.o.symm,by rw [HL0.o];exact HI.o,HB1.o _,HD.o,by omega,hhh ⟨fun _ h=>h,rfl,rfl⟩⟩
  case round =>
   obtain ⟨j,L,ho,hj,hso,hij,ht,hL16,hjl,hup⟩:=hrel;have HSo:=hhh hso;have HIj:=hhh hij;have HT:=hhh ht;have hlen:(aG (v :: List.replicate j Part.close)).length=j + 1:=by simp [aG]
   obtain ⟨oa,oc,ro⟩:=hso.len;rw [hlen] at ro;subst ro;have HLen:=hhh hlen;have hj16:j <= 16:=by have:=HD.o;omega
   clear hso hij ht hlen;rcases List.eq_nil_or_concat L with rfl | ⟨K,t,rfl⟩
   ·have HP:=hhh (show c.value v=(c.dR [] true,v :: List.replicate j Part.close) by
     unfold Core.value;rw [hup.out.2.1,hup.out.2.2,List.reverse_nil,up_nil]
     simp [Core.dR])
    obtain ⟨xa,xc,sa,sc,hoo,hss,rfl,h1,h2⟩:=HIj.o.cL;have cc1:=HT.o.has.right.cell b _ _ mcs 1 _ rfl;have ff2:=HT.o.has.right.free b _ _ mcs 2;have cc2:=HT.o.has.right.cell b _ _ mcs 2 _ rfl;have hOp:(c.dR [] c.done).opened.length=0:=rfl;rw [hOp] at cc1;have T2:=hhh (show Own.aA h ((Own.row b T ((c.dR [] true).cells (.slice xa 0 xc) (.slice sa (c.dR [] c.done).s.length sc) ++ post) :: (hoo ++ hss)) ++ ho) w (wr.setCell ⟨b,2,none⟩ (.bool true)) from HT.o.flip.put 2 (.bool true) _ rfl);have HI2:=hhh (show (c.dR [] true).Is T b post _ from ⟨_,_,_,_,h1,h2,rfl⟩);clear h1 h2 HIj HT hup;go_wp2;go_ret;rw [HP.o];exact ⟨_,ho,_,rfl,HSo.o,HI2.o,T2.o.flip⟩
   ·rw [List.concat_eq_append] at *
    have hOp:(c.dR (K ++ [t]) c.done).opened=K ++ [t]:=rfl;obtain ⟨ob,m,spare,sa,sc,hs,rfl,h1,h2,h3⟩:=HIj.o.last K t hOp;have hKl:K.length < 16:=by simp at hL16;omega
    have hpt:=HPa.o t (hup.out.1 t (by simp));have hpn:t.parts <= 1000000:=Nat.le_trans hpt HN.o;have htj:=HT.o.has.right;have cc1:=htj.cell b _ _ mcs 1 _ rfl;have d2:=htj.cell ob _ _ (mcm _ mcs) (K.length * 3 + 2) (.int .i64 (t.parts:Int)) (by rw [<- bR,List.getElem?_append_right (by omega)];simp);have d0:=htj.cell ob _ _ (mcm _ mcs) (K.length * 3) (.bool t.pairs) (by rw [<- bR,List.getElem?_append_right (by omega)];simp);have d1:=htj.cell ob _ _ (mcm _ mcs) (K.length * 3 + 1) (.int .i64 t.count) (by rw [<- bR,List.getElem?_append_right (by omega)];simp);have g2:=htj.free ob _ _ (mcm _ mcs) (K.length * 3 + 2);have hwr:IntKind.i64.wrap ((t.parts:Int) + 1)=(t.parts:Int) + 1:=by rw [IntKind.wrap_i64];omega
    have htop:((K.length + 1:Nat):Int) - 1=(K.length:Int):=by omega
    have hne:ob ≠ b:=by
     intro e;have:=htj.once;rw [e] at this;simp [Own.blocks] at this
    have T2 := hhh (show Own.aA h (ho ++ (Own.row b T ((c.dR (K ++ [t]) c.done).cells (.slice (some ⟨ob, 0, none⟩) (K.length + 1) (K.length + 1 + m)) (.slice sa (c.dR (K ++ [t]) c.done).s.length sc) ++ post) ::
      Own.row ob 301 (bQ K ++ ([Value.bool t.pairs,.int .i64 t.count,.int .i64 ((t.parts:Int) + 1)] ++ spare)) :: hs)) w (wr.setCell ⟨ob,K.length * 3 + 2,none⟩ (.int .i64 ((t.parts:Int) + 1))) by
     have t0:=Own.aA.setAt [_] (HT.o.flip (l:=ho) (r:=_ :: Own.row ob 301 _ :: hs)) (K.length * 3 + 2) (.int .i64 ((t.parts:Int) + 1)) (by rw [<- bR];simp);have e:(bQ K ++ ([Value.bool t.pairs,.int .i64 t.count,.int .i64 (t.parts:Int)] ++ spare)).set (K.length * 3 + 2) (.int .i64 ((t.parts:Int) + 1))=bQ K ++ ([Value.bool t.pairs,.int .i64 t.count,.int .i64 ((t.parts:Int) + 1)] ++ spare):=by
      rw [<- bR,List.set_append_right _ _ (by omega)];simp
     rw [e] at t0
     exact Own.aA.flip (l:=_ :: Own.row ob _ _ :: hs) (r:=ho) t0)
    have HFi:=hhh (show ∀ u,Calls Tryz.prog 215 #[.agg #[.bool t.pairs,.int .i64 t.count,.int .i64 ((t.parts:Int) + 1)]] u fun e w'=>e = .returned (.bool (Crt.mk t.pairs t.count (t.parts + 1)).fits) /\ Below u.heap.size u w' from fun u=>aCz ⟨t.pairs,t.count,t.parts + 1⟩ (show t.parts + 1 <= 2000000 by omega) u);have HIs:=hhh (Core.Is.of (c.dR (K ++ [⟨t.pairs,t.count,t.parts + 1⟩]) c.done) T b post (ob:=ob) h1 (by show (K ++ [_]).length + m <= maxLen;simp;omega) h3);have HIk:=hhh (Core.Is.of (c.dR K c.done) T b post (ob:=ob) (m:=m + 1) (spare:=[.bool t.pairs,.int .i64 t.count,.int .i64 ((t.parts:Int) + 1)] ++ spare) (by simp;omega) (by show K.length + (m + 1) <= maxLen;omega) h3);have HUp:=hhh (And.intro (aF9 t K.reverse) (aG5 t K.reverse));have HMem:=hhh (fun x (hx:x ∈ K)=>hup.out.1 x (List.mem_append_left _ hx));have HUj:=hhh hup.out.2;rw [List.reverse_append,List.reverse_singleton,List.singleton_append] at HUj;obtain ⟨N,hN⟩:∃ N,N=K.length:=⟨_,rfl⟩;rw [<- hN] at cc1 d0 d1 d2 g2 htop T2;have HNk:=hhh hN;have hNl:N < 16:=by omega
    have hjN:j + (N + 1)=c.opened.length:=by rw [<- hjl];simp [hN]
    clear h1 h2 h3 HIj hup hpt hpn htj hN hjl hL16 hOp hKl;generalize hft:(Crt.mk t.pairs t.count (t.parts + 1)).fits=ft at HFi HUp;have Hft:=hhh hft;clear hft;go_wp2_with (fail);refine (HFi.o _).mono ?_;rintro e3 w3 ⟨rfl,b3⟩;have T3:=hhh (T2.o.trans (Own.aA.aL T2.o.has b3));clear cc1 d0 d1 d2 g2
    cases ft
    ·have HP:=hhh (show c.value v=(c.dR (K ++ [⟨t.pairs,t.count,t.parts + 1⟩]) c.done,v :: List.replicate j Part.close) by
      unfold Core.value;rw [HUj.o.1,HUj.o.2,HUp.o.2 rfl]
      simp [Core.dR])
     go_wp2;go_ret;rw [HP.o];refine ⟨_,ho,_,rfl,HSo.o,HIs.o,?_⟩;have e1:(c.dR (K ++ [⟨t.pairs,t.count,t.parts + 1⟩]) c.done).opened.length=N + 1:=by rw [HNk.o];simp [Core.dR]
     rw [e1];have e2:bQ (c.dR (K ++ [⟨t.pairs,t.count,t.parts + 1⟩]) c.done).opened ++ spare=bQ K ++ ([Value.bool t.pairs,.int .i64 t.count,.int .i64 ((t.parts + 1:Nat):Int)] ++ spare):=by
      show bQ (K ++ [_]) ++ spare=_;rw [fJ,uD,List.append_assoc]
     rw [e2];exact T3.o
    ·have z1:=T3.o.has.right.cell b _ _ mcs 1 _ rfl
     have zf:=T3.o.has.right.free b _ _ mcs 1
     have T4 := hhh (show Own.aA h (ho ++ (Own.row b T ((c.dR K c.done).cells (.slice (some ⟨ob, 0, none⟩) N (N + 1 + m)) (.slice sa (c.dR (K ++ [t]) c.done).s.length sc) ++ post) ::
       Own.row ob 301 (bQ K ++ ([Value.bool t.pairs,.int .i64 t.count,.int .i64 ((t.parts:Int) + 1)] ++ spare)) :: hs)) w (w3.setCell ⟨b,1,none⟩ (.slice (some ⟨ob,0,none⟩) N (N + 1 + m))) from
      Own.aA.flip (l:=Own.row b T ((c.dR K c.done).cells _ _ ++ post) :: Own.row ob _ _ :: hs) (r:=ho) ((Own.aA.flip (l:=ho) (r:=_ :: Own.row ob _ _ :: hs) T3.o).put 1 (.slice (some ⟨ob,0,none⟩) N (N + 1 + m)) _ rfl))
     have e1:(c.dR K c.done).opened.length=N:=HNk.o.symm;rw [e1,show N + (m + 1)=N + 1 + m by omega] at HIk
     have hu2:=hhh (show (up c.opened.reverse).1=(up K.reverse).1 /\ (up c.opened.reverse).2=(up K.reverse).2 + (j + 1) by
      rw [HUj.o.1,HUj.o.2,HUp.o.1 rfl]
      exact ⟨rfl,by simp only;omega⟩)
     clear e1 HIs HFi;go_wp2_with (at_builtin;go_loud (refine Own.bN w3.heap.size (Own.aX _ _ _) rfl _ _ 170 rfl 20 i0 .nilIface 16 Tryz.underlying170 Hi.o.1 Hi.o.2.1 Hi.o.2.2.1 Hi.o.2.2.2 rfl (.slice oa (j + 1) oc) (aG (v :: List.replicate j Part.close)) (j + 1) HLen.o ho _ rfl HSo.o T4.out.has _ rfl rfl ?c1 ?c2 ?_))
     case c1=>simp only [maxLen];omega
     case c2=>omega
     intro ad' c' h' w' hs' ht';have S4:=hhh hs';have T5:=hhh (T4.out.trans ht');clear hs' ht';go_wp2;go_roundw
     case rel =>
      refine ⟨j + 1,K,h',_,?_,HIk.o,T5.o,by rw [<- HNk.o];omega,by rw [<- HNk.o];omega,hhh ⟨HMem.o,hu2.o⟩⟩;have:=S4.o;rw [show aG (v :: List.replicate (j + 1) Part.close)=aG (v :: List.replicate j Part.close) ++ [Part.close.val] by simp [aG,List.replicate_succ']];exact this
     case measure=>simp [lenSl];omega
end
end Pip
end
section
open Go.RowKit
open Json (Part)
namespace Own
theorem kA {P : Program} {w : World} {ops : Array Oper} {rest : List Oper} {o : Oper} {a : Act} {Q : Exit → Act → World → Prop} (hgd : o.guard = none) (s x : Operand) (t : TypeId)
  (ho:o.op = .call { callee:=.builtin .append,args:=#[s,x],argTypes:=#[t,t] })
  (e:TypeId) (i:TypeInfo) (z:Value) (bytes:Nat) (ht:P.underlying t=some (.slice e)) (hi:P.info? e=some i) (hz:i.zero=some z)
  (hsize:i.size=1) (hby:i.bytes=bytes) (hzs:z.cells.size=1)
  (v:Value) (xs:List Value) (h:Heap) (hs:a.eval s=v) (hv:Slc e xs v h) (y:Value) (ys:List Value) (g:Heap) (hx:a.eval x=y) (hy:Slc e ys y g) (R:Heap) (hw:Has w (h ++ (g ++ R)))
  (h1:∀ u ∈ ys,u.oneCell'=true) (hm0:0 < ys.length) (h63:xs.length + ys.length <= maxLen) (hbytes:(xs.length + ys.length) * bytes <= 140737488355328)
  (hK:∀ ad' c' h' w',Slc e (xs ++ ys) (.slice ad' (xs.length + ys.length) c') h' -> aA (h ++ (g ++ R)) (h' ++ (g ++ R)) w w' -> wpList P ops Q rest (a.put o.dst (.slice ad' (xs.length + ys.length) c')) w') :
  wpList P ops Q (o :: rest) a w:=by
 cases hy with
 | bare a0 h0=>subst h0;simp at hm0
 | row b pre spare hm =>
  refine gN hgd s x t ho e i z bytes ht hi hz hsize hby hzs v xs h hs hv hw.left ⟨b,pre.length,none⟩ _ ys.length ys hx rfl (fun j u hj=>?_) h1 hm0 h63 hbytes ?_
  ·rw [Addr.add_lit]
   refine (hw.right.left).cell b e (pre ++ (ys ++ spare)) (List.mem_singleton.2 rfl) (pre.length + j) u ?_;rw [List.getElem?_append_right (by omega),Nat.add_sub_cancel_left,List.getElem?_append_left (List.getElem?_eq_some_iff.1 hj).1];exact hj
  ·intro ad' c' h' w' hs' ht'
   exact hK ad' c' h' w' hs' (ht'.frame hw)
end Own
namespace Pip
theorem infoCrt:(Tryz.prog.info? 301).map (fun i=>(i.zero,i.size,i.bytes))=some (some (.agg #[.bool false,.int .i64 0,.int .i64 0]),3,24):=by kernel_rfl
section
variable {c:Core} {T:TypeId} {b:Nat} {post:List Value} {h:Own.Heap} {w:World}
theorem uI {n : Nat} (hi : c.Is T b post h) (hw : Own.Has w h) (hf : c.Fits n) (pairs : Bool) (count : Int) (hc : count ≠ 0) :
  Calls Tryz.prog 209 #[.pointer (some ⟨b,0,none⟩),.bool pairs,.int .i64 count] w (bM (c.begin pairs count) T b post h w):=by
 have HP:=hhh (show c.begin pairs count=(c.dR (c.opened ++ [⟨pairs,count,0⟩]) c.done,[.aH pairs count]) by unfold Core.begin;rw [if_neg hc];rfl);obtain ⟨i0,hi0,e0⟩:=Option.map_eq_some_iff.1 infoCrt;simp only [Prod.mk.injEq] at e0;obtain ⟨hz,hsz,hby⟩:=e0;have Hi:=hhh (And.intro hi0 (And.intro hz (And.intro hsz hby)));have hcb:(count == 0)=false:=by simpa using hc
 have hN16:c.opened.length <= 16:=Nat.le_trans hf.deep hf.depth;obtain ⟨oa,oc,sa,sc,ho,hs,rfl,h1,h2⟩:=hi.cL;have HS:=hhh h1;have HS2:=hhh h2;obtain ⟨N,hN⟩:∃ N,N=c.opened.length:=⟨_,rfl⟩;have t0:=(Own.aA.aQ (Own.aA.refl hw) w.heap.size rfl 229 [.bool pairs,.int .i64 count]).aQ (w.heap.size + 1) (Json.size_alloc w _) 301 [.bool pairs,.int .i64 count,.int .i64 0];rw [<- hN] at t0 HS |-;have HN:=hhh hN
 have t1 : Own.aA (Own.row b T (c.cells (.slice oa N oc) (.slice sa c.s.length sc) ++ post) :: (ho ++ hs)) (Own.row (w.heap.size + 1) 301 [.bool pairs, .int .i64 count, .int .i64 0] ::
   (ho ++ (Own.row b T (c.cells (.slice oa N oc) (.slice sa c.s.length sc) ++ post) :: Own.row w.heap.size 229 [.bool pairs,.int .i64 count] :: hs))) w
   ((w.alloc (.cells #[.bool pairs,.int .i64 count] 229)).alloc (.cells #[.bool pairs,.int .i64 count,.int .i64 0] 301)) :=
  t0.perm (.refl _) (Own.aE _ _ fun x=>by simp only [List.count_append,List.count_cons];omega)
 have HT:=hhh t1;have ta:=Own.aA.aD (Own.aA.refl hw);have c1:=fun o=>(ta o).has.cell b _ _ mcs 1 _ rfl
 have c1':=hw.cell b _ _ mcs 1 _ rfl;rw [<- hN] at c1';simp only [<- hN] at c1;have hlt:=hw.bK;have hne:¬ b=w.heap.size:=by omega
 have hne':¬ w.heap.size=b:=by omega
 rw [<- hN] at hN16;clear hi hw hf h1 h2 t0 t1 ta hc hN hi0 hz hsz hby hlt;go_enter Tryz.func209,Tryz.ntmps209;go_wp2_with (at_builtin;go_loud (refine Own.jY rfl _ _ 191 rfl 301 i0 (.agg #[.bool false,.int .i64 0,.int .i64 0]) 3 24 Tryz.underlying191 Hi.o.1 Hi.o.2.1 Hi.o.2.2.1 Hi.o.2.2.2 rfl (.slice oa N oc) N (bQ c.opened) ho _ rfl HS.o (w.heap.size + 1) _ HT.o.has rfl rfl ?hy ?c1 ?c2 ?_))
 case hy=>(intro u hu;simp only [List.mem_cons,List.not_mem_nil,or_false] at hu;rcases hu with rfl | rfl | rfl <;> rfl)
 case c1=>(simp only [maxLen];omega)
 case c2=>omega
 intro ad' c' h' w1 hs' ht';have hs2:=hhh hs';have T2:=HT.o.trans ht';have f1:=T2.has.free b _ _ (mcm _ (List.mem_append_right _ mcs)) 1;have d1:=T2.has.cell b _ _ (mcm _ (List.mem_append_right _ mcs)) 1 _ rfl
 have T3 : Own.aA (Own.row b T (c.cells (.slice oa N oc) (.slice sa c.s.length sc) ++ post) :: (ho ++ hs))
   (Own.row b T (c.cells (.slice ad' (N + 1) c') (.slice sa c.s.length sc) ++ post) :: (Own.row w.heap.size 229 [.bool pairs,.int .i64 count] :: (h' ++ hs ++ [Own.row (w.heap.size + 1) 301 [.bool pairs,.int .i64 count,.int .i64 0]]))) w
   (w1.setCell ⟨b,1,none⟩ (.slice ad' (N + 1) c')) :=
  (T2.perm (.refl _) (Own.aE _ (Own.row b T (c.cells (.slice oa N oc) (.slice sa c.s.length sc) ++ post) :: (Own.row w.heap.size 229 [.bool pairs,.int .i64 count] :: (h' ++ hs ++ [Own.row (w.heap.size + 1) 301 [.bool pairs,.int .i64 count,.int .i64 0]])))
   fun x=>by simp only [List.count_append,List.count_cons,List.count_nil];omega)).put 1 _ _ rfl
 have b0:=T3.has.cell w.heap.size _ _ (mcm _ mcs) 0 _ rfl;have b1:=T3.has.cell w.heap.size _ _ (mcm _ mcs) 1 _ rfl;have HT3:=hhh T3;clear hs' ht' T2 T3 HT;go_wp2;go_ret;rw [HP.o];refine ⟨_,[Own.row _ 20 [(Part.aH pairs count).val]],_,rfl,Own.Slc.row (e:=20) (xs:=aG [.aH pairs count]) _ [] [] (by show (1:Nat) <= maxLen;decide),⟨.slice ad' (N + 1) c',.slice sa c.s.length sc,h',hs,?_,HS2.o,rfl⟩,?_⟩
 ·have:=hs2.o
  show Own.Slk 3 _ (c.opened ++ [_]).length (bQ (c.opened ++ [_])) _ _;rw [List.length_append,List.length_singleton,fJ,<- HN.o];exact this
 ·have:=HT3.o.aQ w1.heap.size (Own.aX _ _ _) 20 [(Part.aH pairs count).val]
  exact (this.perm (.refl _) (Own.aE _ (([Own.row w1.heap.size 20 [(Part.aH pairs count).val]] ++ (Own.row b T (c.cells (.slice ad' (N + 1) c') (.slice sa c.s.length sc) ++ post) :: (h' ++ hs))) ++ [Own.row w.heap.size 229 [.bool pairs,.int .i64 count],Own.row (w.heap.size + 1) 301 [.bool pairs,.int .i64 count,.int .i64 0]])
   fun x=>by simp only [List.count_append,List.count_cons,List.count_nil];omega)).drop
theorem vQ {n : Nat} (hi : c.Is T b post h) (hw : Own.Has w h) (hf : c.Fits n) (hn : n ≤ 1000000) (pairs : Bool) :
  Calls Tryz.prog 209 #[.pointer (some ⟨b,0,none⟩),.bool pairs,.int .i64 0] w (bM (c.begin pairs 0) T b post h w):=by
 have HP:=hhh (show c.begin pairs 0=((c.value .close).1,[.aH pairs 0] ++ (c.value .close).2) by unfold Core.begin;rw [if_pos rfl];rfl);obtain ⟨i0,hi0,e0⟩:=Option.map_eq_some_iff.1 infoAny;simp only [Prod.mk.injEq] at e0;obtain ⟨hz,hsz,hby⟩:=e0;have Hi:=hhh (And.intro hi0 (And.intro hz (And.intro hsz hby)));have HT:=hhh (Own.aA.aQ (Own.aA.refl hw) w.heap.size rfl 229 [.bool pairs,.int .i64 0]);have HV:=hhh (fun u (k:Own.Has u h)=>dL hi k hf hn .close);have hlen:=up_count c.opened.reverse;rw [List.length_reverse] at hlen;have hd:=hf.deep;have hd2:=hf.depth;have hpl:0 < (aG (c.value .close).2).length /\ (aG (c.value .close).2).length <= 100:=by
  simp [aG,Core.value];omega
 generalize c.value .close=o at HP HV hpl;obtain ⟨o1,o2⟩:=o;simp only at HP HV hpl;obtain ⟨M,hM⟩:∃ M,M=(aG o2).length:=⟨_,rfl⟩;rw [<- hM] at hpl;have HM:=hhh hM
 have h1c:=hhh (show ∀ u ∈ aG o2,u.oneCell'=true by
  intro u hu;obtain ⟨p,_,rfl⟩:=List.mem_map.1 hu
  exact tG p)
 clear hi hw hf hi0 hz hsz hby hlen hd hd2 hM;go_enter Tryz.func209,Tryz.ntmps209;go_wp2_with (fail);refine (HV.o _ (Own.Has.right (a:=[_]) HT.o.has)).mono ?_;rintro e w1 ⟨v,hv,h',rfl,hs,i1,t1⟩;have T1:=hhh (HT.o.trans (t1.cons HT.o.has));have HS:=hhh hs;have HI:=hhh i1;obtain ⟨va,vc,rfl⟩:=hs.len;rw [<- HM.o] at HS |-;have b0:=T1.o.has.cell w.heap.size _ _ mcs 0 _ rfl;have b1:=T1.o.has.cell w.heap.size _ _ mcs 1 _ rfl;have T2:=hhh (T1.o.aQ w1.heap.size rfl 20 [(Part.aH pairs 0).val])
 have HS1:=hhh (show Own.Slc 20 (aG [Part.aH pairs 0]) (.slice (some ⟨w1.heap.size,0,none⟩) 1 1) [Own.row w1.heap.size 20 [(Part.aH pairs 0).val]] from
  Own.Slc.row (e:=20) (xs:=aG [Part.aH pairs 0]) w1.heap.size [] [] (by show (1:Nat) <= maxLen;decide))
 have T3:=hhh (T2.o.perm (.refl _) (Own.aE _ ([Own.row w1.heap.size 20 [(Part.aH pairs 0).val]] ++ (hv ++ (h' ++ [Own.row w.heap.size 229 [.bool pairs,.int .i64 0]]))) fun x=>by simp only [List.count_append,List.count_cons,List.count_nil];omega));clear hs i1 t1 T1 T2 HV HT;go_wp2_with (at_builtin;go_loud (refine Own.kA rfl _ _ 170 rfl 20 i0 .nilIface 16 Tryz.underlying170 Hi.o.1 Hi.o.2.1 Hi.o.2.2.1 Hi.o.2.2.2 rfl (.slice (some ⟨w1.heap.size,0,none⟩) 1 1) (aG [Part.aH pairs 0]) _ rfl HS1.o (.slice va M vc) (aG o2) hv rfl HS.o _ T3.o.has h1c.o ?c0 ?c1 ?c2 ?_))
 case c0=>rw [<- HM.o];exact hpl.1
 case c1=>rw [<- HM.o];show 1 + M <= maxLen;simp only [maxLen];omega
 case c2=>rw [<- HM.o];show (1 + M) * 16 <= _;omega
 intro ad' c' h2 w2 hs' ht';rw [<- HM.o,show (aG [Part.aH pairs 0]).length=1 from rfl] at hs' |-;have HS3:=hhh hs';have T4:=hhh (T3.o.trans ht');clear hs' ht';go_wp2;go_ret;rw [HP.o];refine ⟨_,h2,h',rfl,?_,HI.o,?_⟩
 ·have:=HS3.o
  simpa [aG] using this
 ·exact (T4.o.perm (.refl _) (Own.aE _ ((h2 ++ h') ++ (hv ++ [Own.row w.heap.size 229 [.bool pairs,.int .i64 0]])) fun x=>by simp only [List.count_append];omega)).drop
theorem oH {n : Nat} (hi : c.Is T b post h) (hw : Own.Has w h) (hf : c.Fits n) (hn : n ≤ 1000000) (pairs : Bool) (count : Int) :
  Calls Tryz.prog 209 #[.pointer (some ⟨b,0,none⟩),.bool pairs,.int .i64 count] w (bM (c.begin pairs count) T b post h w):=by
 by_cases hc:count=0
 ·subst hc;exact vQ hi hw hf hn pairs
 ·exact uI hi hw hf pairs count hc
theorem Core.Is.shut (hi : c.Is T b post h) (L : List Crt) (t : Crt) (hl : c.opened = L ++ [t]) {a0 : Own.Heap} {u : World} (tu : Own.aA a0 h u w) :
  ∃ ob m spare h',(w.cell? ⟨b,1,none⟩=some (.slice (some ⟨ob,0,none⟩) (L.length + 1) (L.length + 1 + m))) /\ w.frozen? ⟨b,1,none⟩=false /\ w.cell? ⟨ob,L.length * 3,none⟩=some (.bool t.pairs) /\ w.cell? ⟨ob,L.length * 3 + 1,none⟩=some (.int .i64 t.count) /\
   w.cell? ⟨ob,L.length * 3 + 2,none⟩=some (.int .i64 (t.parts:Int)) /\ spare=0 /\ L.length + 1 + m <= maxLen /\
   (Core.mk c.depth c.opened.dropLast c.done c.e c.word c.chunks c.lack c.s c.c).Is T b post h' /\ Own.aA a0 h' u (w.setCell ⟨b,1,none⟩ (.slice (some ⟨ob,0,none⟩) L.length (L.length + 1 + m))):=by
 obtain ⟨ob,m,spare,sa,sc,hs,rfl,h1,h2,h3⟩:=hi.last L t hl;have hw:=tu.has
 have d:=fun (j:Nat) (v:Value) (hv:[Value.bool t.pairs,.int .i64 t.count,.int .i64 (t.parts:Int)][j]? = some v)=>hw.cell ob _ _ (mcm _ mcs) (L.length * 3 + j) v (by
  have hj3:j < 3:=(List.getElem?_eq_some_iff.1 hv).1
  rw [<- bR,List.getElem?_append_right (by omega),Nat.add_sub_cancel_left,List.getElem?_append_left (by simpa using hj3)];exact hv)
 refine ⟨ob,m,0,_,hw.cell b _ _ mcs 1 _ rfl,hw.free b _ _ mcs 1,d 0 _ rfl,d 1 _ rfl,d 2 _ rfl,rfl,h2,?_,tu.put 1 (.slice (some ⟨ob,0,none⟩) L.length (L.length + 1 + m)) _ rfl⟩;have hd:c.opened.dropLast=L:=by rw [hl];simp
 rw [hd];have:=Core.Is.of (Core.mk c.depth L c.done c.e c.word c.chunks c.lack c.s c.c) T b post (ob:=ob) (m:=m + 1) (spare:=[.bool t.pairs,.int .i64 t.count,.int .i64 (t.parts:Int)] ++ spare) (by simp;omega) (by show L.length + (m + 1) <= maxLen;omega) h3;simp only at this;rw [show L.length + (m + 1)=L.length + 1 + m by omega] at this;exact this
theorem zF {n : Nat} (hi : c.Is T b post h) (hw : Own.Has w h) (hf : c.Fits n) (hn : n ≤ 1000000) :
  Calls Tryz.prog 211 #[.pointer (some ⟨b,0,none⟩)] w (bM c.break T b post h w):=by
 have HFl:=hhh (cP hi hw 2);rcases List.eq_nil_or_concat c.opened with h0 | ⟨L,t,h0⟩
 ·have HP:=hhh (show c.break=c.fail 2 by unfold Core.break;rw [h0];rfl)
  obtain ⟨oa,oc,sa,sc,ho,hs,rfl,h1,h2⟩:=hi.cL;have c1:=hw.cell b _ _ mcs 1 _ rfl;rw [h0] at c1;simp only [List.length_nil] at c1;clear hi hw h1 h2 hf h0;generalize c.fail 2=o at HP HFl;go_enter Tryz.func211,Tryz.ntmps211;go_wp2_with (fail);refine HFl.o.mono ?_;rintro e w1 ⟨v,hv,h',rfl,hs,i1,t1⟩;have HI:=hhh i1;have HT:=hhh t1;have HS:=hhh hs;clear i1 t1 hs;go_wp2;go_ret;rw [HP.o];exact ⟨_,hv,h',rfl,HS.o,HI.o,HT.o⟩
 ·rw [List.concat_eq_append] at h0
  have hN16:L.length < 16:=by have h16:=Nat.le_trans hf.deep hf.depth;rw [h0] at h16;simp at h16;omega
  have HP0:c.break=if 0 <= t.count \/ (t.pairs=true /\ t.parts % 2=1) then c.fail 2 else (Core.mk c.depth c.opened.dropLast c.done c.e c.word c.chunks c.lack c.s c.c).value .close:=by unfold Core.break;rw [h0];simp
  obtain ⟨ob,m,x0,h1,c1,f1,d0,d1,d2,-,hm,i1,t1⟩:=hi.shut L t h0 (Own.aA.refl hw);have hd:(Core.mk c.depth c.opened.dropLast c.done c.e c.word c.chunks c.lack c.s c.c).Fits n :=
   ⟨hf.depth,by have:=hf.deep;show c.opened.dropLast.length <= c.depth;rw [List.length_dropLast];omega,fun t ht=>hf.aW t ((List.dropLast_sublist c.opened).subset ht),hf.e,hf.s,hf.c⟩
  have HV:=hhh (dL i1 t1.has hd hn .close);have HT1:=hhh t1;generalize c.fail 2=o at HP0 HFl;generalize (Core.mk c.depth c.opened.dropLast c.done c.e c.word c.chunks c.lack c.s c.c).value .close=o2 at HP0 HV;generalize c.break=O at HP0 |-;have e1:=aEs t.parts;have e2:=yC t.parts;have hlt:=Nat.mod_lt t.parts (show 0 < 2 by omega);have htop:((L.length + 1:Nat):Int) - 1=(L.length:Int):=by omega
  generalize L.length=N at *
  clear h0 hi hw hf hd i1 t1 hn;obtain ⟨y,ct,k⟩:=t;simp only at *
  generalize k % 2=r at e1 e2 HP0 hlt;have fin:∀ P:Core × List Part,O=P -> ∀ (e:Ending) (w':World),bM P T b post h w e w' -> bM O T b post h w e w':=fun P hP e w' hd=>hP ▸ hd
  have Fin:=hhh fin;clear fin;by_cases hcn:0 <= ct
  ·have HP:=hhh (show O=o by rw [HP0,if_pos (.inl hcn)])
   clear HP0 HV HT1;go_enter Tryz.func211,Tryz.ntmps211;go_wp2_with (fail);refine HFl.o.mono ?_;rintro e w1 ⟨v,hv,h',rfl,hs,i1,t1⟩;have HI:=hhh i1;have HT:=hhh t1;have HS:=hhh hs;clear i1 t1 hs;go_wp2;go_ret;exact Fin.o _ HP.o _ _ ⟨_,hv,h',rfl,HS.o,HI.o,HT.o⟩
  ·have hcn':ct < 0:=by omega
   obtain rfl | rfl:r=0 \/ r=1:=by omega
   all_goals cases y
   case neg.inr.true =>
    have HP:=hhh (show O=o by rw [HP0,if_pos (.inr ⟨rfl,rfl⟩)]);clear HP0 HV HT1;go_enter Tryz.func211,Tryz.ntmps211;go_wp2_with (fail);refine HFl.o.mono ?_;rintro e w1 ⟨v,hv,h',rfl,hs,i1,t1⟩;have HI:=hhh i1;have HT:=hhh t1;have HS:=hhh hs;clear i1 t1 hs;go_wp2;go_ret;exact Fin.o _ HP.o _ _ ⟨_,hv,h',rfl,HS.o,HI.o,HT.o⟩
   all_goals
    have HP:=hhh (show O=o2 by rw [HP0,if_neg (by simp;omega)]);clear HP0 HFl;go_enter Tryz.func211,Tryz.ntmps211;go_wp2_with (fail);refine HV.o.mono ?_;rintro e w1 ⟨v,hv,h',rfl,hs,i1,t1⟩;have HI:=hhh i1;have HT:=hhh (HT1.o.trans t1);have HS:=hhh hs;clear i1 t1 hs;go_wp2;go_ret;exact Fin.o _ HP.o _ _ ⟨_,hv,h',rfl,HS.o,HI.o,HT.o⟩
end
end Pip
end
end Go.Proofs.YtfheacchdfdeiaaGreat
