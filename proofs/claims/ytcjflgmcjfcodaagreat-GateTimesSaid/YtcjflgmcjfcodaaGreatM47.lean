/- Texts of the walk, joined. -/
import Derived.Test.YtcjflgmcjfcodaaGreatM09
import Derived.Test.YtcjflgmcjfcodaaGreatM34
import Derived.Test.YtcjflgmcjfcodaaGreatM40
import Derived.Test.YtcjflgmcjfcodaaGreatM46
import Derived.Handy
set_option maxRecDepth 100000
set_option maxHeartbeats 8000000
namespace Go.Proofs.Tryz end Go.Proofs.Tryz
namespace Go.Proofs.YtcjflgmcjfcodaaGreat
open Go.Proofs.Tryz
section
open Go.RowKit
namespace Ses
open Pip
theorem aA8 (a b:ByteArray):(a ++ b).data.toList=a.data.toList ++ b.data.toList:=by
 rw [ByteArray.data_append,Array.toList_append]
theorem aGm (s : St) (b : UInt8) (O : Setup × Nat) (hO : O = bK (s.header ++ [b])) :
  (O.2=3 -> s.iP b = { s with header:=s.header ++ [b] }) /\ (O.2=0 -> s.iP b = { s with header:=s.header ++ [b],setup:=O.1,told:=true,p:=some (Pp.new O.1),out:=s.out ++ [75] }) /\
   (O.2 ≠ 3 -> O.2 ≠ 0 -> s.iP b=({ s with header:=s.header ++ [b] }:St).stop O.2 false):=by
 subst hO;unfold St.iP
 dsimp only
 refine ⟨fun h=>ifp h,fun h=>?_,fun h1 h2=>?_⟩
 ·rw [ifn (by rw [h];decide),ifp h]
 ·rw [ifn h1,ifn h2]
section
variable {T:Esc.bA} {n:Nat} {s:St} {sb rb bb:Nat} {r:Ring.St} {lv pv:Value} {hq hp h:Own.Heap} {w:World}
theorem aAw (i : Is s sb h) (hw : Own.Has w h) (g : s.Good T n) (hn : n ≤ 2600) (b : UInt8) (l : List UInt8) (hi : s.inb = b :: l) (ht : s.told = false) :
  Calls prog 58 #[.pointer (some ⟨sb,0,none⟩)] w fun r w'=>(∃ v,r = .returned v) /\ ∃ h',Is (({ s with inb:=l }:St).iP b) sb h' /\ Own.aA h h' w w':=by
 obtain ⟨rb,bb,r,lv,pv,hq,hp,a,rfl⟩:=i;have HTk:=hhh (take_one a hw);have hPI:=a.p;rw [g.early ht] at hPI;obtain ⟨rfl,rfl⟩:=hPI;have c0:=hw.cell sb 87 _ mcs 0 _ rfl;obtain ⟨S,hS⟩:∃ S:ByteArray,S=⟨(s.inb.take 1).toArray⟩:=⟨_,rfl⟩;have e0:=tS (S:=S) (by rw [hS,hi];simp);rw [<- hS] at HTk;have hz:S.size=1:=by rw [hS,hi];rfl
 have hSl:S.data.toList=[b]:=by rw [hS,hi];rfl
 obtain ⟨H,hH⟩:∃ H:ByteArray,H=⟨s.header.toArray⟩:=⟨_,rfl⟩;have hHl:H.data.toList=s.header:=by rw [hH]
 have hHz:H.size <= 3000:=by
  have:=g.head;rw [<- hHl] at this;have q:H.data.toList.length=H.size:=Array.length_toList;omega
 have hcat:(H ++ S).data.toList=s.header ++ [b]:=by rw [aA8,hHl,hSl]
 have hcatE:(H ++ S)=⟨(s.header ++ [b]).toArray⟩:=by
  apply ByteArray.ext;apply Array.toList_inj.1;rw [hcat]
 have HG:=hhh (fun W=>aJs (H ++ S) W);rw [hcat] at HG;obtain ⟨O,hO⟩:∃ O,O=bK (s.header ++ [b]):=⟨_,rfl⟩;have HGr:=hhh (aGm ({ s with inb:=l }:St) b O hO);have hgood:O.2=0 -> right O.1=true:=by rw [hO];exact fun h=>(pY _ h).2.1
 rw [<- hO] at HG;have HO:=hhh (ai hO (ai hcatE (ai hH hgood)));have HL:=hhh (show s.inb.drop 1=l by rw [hi];rfl);have ho:s.out.length <= 999999999980:=by have:=g.out;omega
 have Ho:=hhh ho;clear hw a hS hH hi hcatE hcat hHl hSl hgood hO g ho hn;obtain ⟨su,e2⟩:=O;obtain ⟨v,hv⟩:∃ v,v=({ s with inb:=l }:St).iP b:=⟨_,rfl⟩;rw [<- hv] at HGr |-;clear hv;have HNew:=hhh (fun (h0:e2=0) (W:World)=>Pip.eO su (HO.o.2.2.2 h0) W);simp only [Setup.val] at HG HNew;go_enter func58,ntmps58;go_wp2_with (fail);refine HTk.o.mono ?_;rintro e w1 ⟨rfl,r',a1,t1⟩;have c9:=t1.has.cell sb 87 _ mcs 9 _ rfl;have c3:=t1.has.cell sb 87 _ mcs 3 _ rfl;have f3:=t1.has.free sb 87 _ mcs 3;rw [ht] at c9;rw [show Value.string ⟨s.header.toArray⟩ = .string H by rw [HO.o.2.2.1]] at c3
 have T1:=hhh (show Own.aA _ (aDt ({ s with inb:=l,header:=s.header ++ [b] }:St) sb rb lv (.pointer none) :: (hq ++ (Ring.heap r' rb bb ++ []))) w (w1.setCell ⟨sb,3,none⟩ (.string (H ++ S))) by
  have t2:=t1.set 3 (.string ⟨(s.header ++ [b]).toArray⟩) (by simp [post]);rw [HO.o.2.1]
  exact t2)
 have A1:=hhh (show At ({ s with inb:=l,header:=s.header ++ [b] }:St) sb rb bb r' lv (.pointer none) hq [] from ⟨a1.f,a1.l,a1.a.trans HL.o,a1.q,a1.p⟩);clear a1 t1 HTk ht;go_wp2_with (fail);refine (HG.o _).mono ?_;rintro e w2 ⟨rfl,b2⟩;have T2:=hhh ((T1.o.trans (Own.aA.aJ T1.o.has b2)).aD (.cells #[.int .i64 su.from_,.int .i64 su.to,.int .i64 su.depth,.int .i64 su.stage,.int .i64 su.limit] 28));have T5:=hhh ((T1.o.trans (Own.aA.aJ T1.o.has b2)).aP w2.heap.size rfl 28 [.int .i64 su.from_,.int .i64 su.to,.int .i64 su.depth,.int .i64 su.stage,.int .i64 su.limit]);clear b2 HG;by_cases h3:e2=3
 ·have HR:=hhh (HGr.o.1 h3)
  subst h3;go_wp2;go_end0;exact ⟨⟨_,rfl⟩,_,HR.o.symm ▸ ⟨rb,bb,r',lv,.pointer none,hq,[],A1.o,rfl⟩,T2.o⟩
 have h3b:((e2:Int) == 3)=false:=by rw [bfn];omega
 by_cases h0:e2=0
 ·have HR:=hhh (HGr.o.2.1 h0)
  have HN:=hhh (HNew.o h0);subst h0;have T3:=hhh T5.o.drew;have k0:=T5.o.has.cell w2.heap.size _ _ mcs 0 _ rfl;have k1:=T5.o.has.cell w2.heap.size _ _ mcs 1 _ rfl;have k2:=T5.o.has.cell w2.heap.size _ _ mcs 2 _ rfl;have k3:=T5.o.has.cell w2.heap.size _ _ mcs 3 _ rfl;have k4:=T5.o.has.cell w2.heap.size _ _ mcs 4 _ rfl;clear HNew h3 HGr;go_wp2_with (fail);go_region_with (first | (go_at_call 73;refine (HN.o _).mono ?_;rintro e w3 ⟨pb,hp3,rfl,ip,t3⟩;have T4:=hhh (T3.o.trans (Own.aA.cons (mX t3 (T3.o.has.right (a:=[_]))) T3.o.has));have IP:=hhh ip;clear ip t3;have cell:=fun j v hj=>T4.o.has.cell sb 87 _ (mcm _ mcs) j v hj;have d4:=cell 4 _ rfl;have d5:=cell 5 _ rfl;have d6:=cell 6 _ rfl;have d7:=cell 7 _ rfl;have d8:=cell 8 _ rfl;have d9:=cell 9 _ rfl;have d10:=cell 10 _ rfl;have f4:=T4.o.has.free sb 87 _ (mcm _ mcs) 4;have f5:=T4.o.has.free sb 87 _ (mcm _ mcs) 5;have f6:=T4.o.has.free sb 87 _ (mcm _ mcs) 6;have f7:=T4.o.has.free sb 87 _ (mcm _ mcs) 7;have f8:=T4.o.has.free sb 87 _ (mcm _ mcs) 8;have f9:=T4.o.has.free sb 87 _ (mcm _ mcs) 9;have f10:=T4.o.has.free sb 87 _ (mcm _ mcs) 10;have j0:=T4.o.has.cell w2.heap.size _ _ mcs 0 _ rfl;have j1:=T4.o.has.cell w2.heap.size _ _ mcs 1 _ rfl;have j2:=T4.o.has.cell w2.heap.size _ _ mcs 2 _ rfl;have j3:=T4.o.has.cell w2.heap.size _ _ mcs 3 _ rfl;have j4:=T4.o.has.cell w2.heap.size _ _ mcs 4 _ rfl;clear cell))
  all_goals
   have T6:=hhh (show Own.aA _ (aDt ({ s with inb:=l,header:=s.header ++ [b],setup:=su,told:=true,p:=some (Pp.new su) }:St) sb rb lv (.pointer (some ⟨pb,0,none⟩)) :: (hq ++ (Ring.heap r' rb bb ++ hp3))) w _ from ((((((((Own.aA.forget (b:=[_]) T4.o).set 4 (.int .i64 su.from_) (by simp [post])).set 5 (.int .i64 su.to) (by simp [post])).set 6 (.int .i64 su.depth) (by simp [post])).set 7 (.int .i64 su.stage) (by simp [post])).set 8 (.int .i64 su.limit) (by simp [post])).set 9 (.bool true) (by simp [post])).set 10 (.pointer (some ⟨pb,0,none⟩)) (by simp [post])).drew);clear d4 d5 d6 d7 d8 d9 d10 f4 f5 f6 f7 f8 f9 f10 j0 j1 j2 j3 j4;have HY:=hhh (fun W=>aJi W);have HA:=hhh (Queue.fX (eV T6.o.has) A1.o.q 1 rfl ⟨#[75]⟩ (by have:=Ho.o;show s.out.length + 1 <= 1000000000000;omega));go_wp2_with (fail);go_region_with (first | (go_at_call 74;refine (HY.o _).mono ?_;rintro e1 W1 ⟨rfl,rfl⟩) | (go_at_call 70;refine HA.o.mono ?_;rintro e2 W2 ⟨⟨v2,rfl⟩,lv',hq',q',t2⟩;have T7:=hhh (T6.o.trans (eI t2 T6.o.has));have Q2:=hhh q';clear t2 q'))
   all_goals
    go_wp2;go_end0;exact ⟨⟨_,rfl⟩,_,HR.o.symm ▸ ⟨rb,bb,r',lv',.pointer (some ⟨pb,0,none⟩),hq',hp3,⟨A1.o.f,A1.o.l,A1.o.a,Q2.o,pb,rfl,IP.o⟩,rfl⟩,T7.o⟩
 ·have HR:=hhh (HGr.o.2.2 h3 h0)
  have h0b:((e2:Int) == 0)=false:=by rw [bfn];omega
  have HE:=hhh (fV (s:=({ s with inb:=l,header:=s.header ++ [b] }:St)) ⟨rb,bb,r',lv,.pointer none,hq,[],A1.o,rfl⟩ T2.o.has e2 false (by have:=Ho.o;show s.out.length <= _;omega));clear h3 h0 HNew HGr;go_wp2_with (fail);refine HE.o.mono ?_;rintro e w4 ⟨⟨v,rfl⟩,h',i',t'⟩;have H:=hhh (ai i' (T2.o.trans t'));clear i' t' HE;go_wp2;go_end0;exact ⟨⟨_,rfl⟩,h',HR.o.symm ▸ H.o.1,H.o.2⟩
end
end Ses
end
section
open Go.RowKit
namespace Ses
open Pip
section
variable {T:Esc.bA} {n:Nat} {s:St} {sb:Nat} {h:Own.Heap} {w:World}
theorem aHb (i : Is s sb h) (hw : Own.Has w h) (g : s.Good T n) (hn : n ≤ 2600) (he : s.ended = false) (hB : ∀ x ∈ Own.blocks h, Esc.tabsEnd ≤ x) (hT : Esc.bP T w) :
  Calls prog 58 #[.pointer (some ⟨sb,0,none⟩)] w fun r w'=>(∃ v,r = .returned v) /\ ∃ h',Is (s.once (aO T)) sb h' /\ Own.aA h h' w w':=by
 cases hi:s.inb with
 | nil =>
  cases ht:s.told with
  | false =>
   rw [show s.once (aO T)=s.stop 3 false by unfold St.once;rw [hi,ht]];exact aEt i hw (by have:=g.out;omega) hi ht
  | true =>
   obtain ⟨p,hp⟩:=g.late ht he;rw [show s.once (aO T)=({ s with out:=s.out ++ (p.fin (aO T)).2.1 }:St).stop (p.fin (aO T)).2.2 true by unfold St.once;rw [hi,ht,hp]];exact aGf i hw g hn hB hT hi ht p hp
 | cons b l =>
  cases ht:s.told with
  | false =>
   rw [show s.once (aO T)=({ s with inb:=l }:St).iP b by unfold St.once;rw [hi,ht]];exact aAw i hw g hn b l hi ht
  | true =>
   obtain ⟨p,hp⟩:=g.late ht he;rw [show s.once (aO T)=({ s with inb:=l }:St).byte (aO T) p b by unfold St.once;rw [hi,ht,hp]];exact aD9 i hw g hn hB hT b l hi ht p hp
theorem aLr (text:Json.Part -> List UInt8) (may:Option (Int -> Bool)) (k:Nat) (s:St) (h:s.ready=true):s.run text may (k + 1)=(((s.jC text may).run text may k).1,((s.jC text may).run text may k).2 + 1):=by
 rw [St.run,ifp h]
theorem aJ5 (text:Json.Part -> List UInt8) (may:Option (Int -> Bool)) (k:Nat) (s:St) (h:k=0 \/ s.ready=false):s.run text may k=(s,0):=by
 cases k with
 | zero=>rfl
 | succ k =>
  rcases h with h | h
  ·cases h
  ·rw [St.run,ifn (by rw [h];decide)]
structure Ran (T:Esc.bA) (may:Option (Int -> Bool)) (n:Nat) (s t:St) (k:Nat):Prop where
 le:k <= 16
 left:s.run (aO T) may 16=((t.run (aO T) may (16 - k)).1,(t.run (aO T) may (16 - k)).2 + k)
 good:t.Good T (n + k)
theorem Ran.start {may:Option (Int -> Bool)} (g:s.Good T n):Ran T may n s s 0:=⟨by omega,rfl,g⟩
theorem Ran.on {may:Option (Int -> Bool)} {t:St} {k:Nat} (r:Ran T may n s t k) (hn:n <= 2500) (hk:k < 16) (h:t.ready=true):Ran T may n s (t.jC (aO T) may) (k + 1):=by
 refine ⟨by omega,?_,?_⟩
 ·rw [r.left,show 16 - k=(16 - (k + 1)) + 1 by omega,aLr _ _ _ _ h]
  simp only [Nat.add_assoc,Nat.add_comm 1 k]
 ·exact uD r.good (by omega) (iV h) may
theorem Ran.off {may:Option (Int -> Bool)} {t:St} {k:Nat} (r:Ran T may n s t k) (h:k=16 \/ t.ready=false):s.run (aO T) may 16=(t,k):=by
 rw [r.left,aJ5 _ _ _ _ (by rcases h with h | h;exact .inl (by omega);exact .inr h)];simp
end
end Ses
end
section
open Go.RowKit
namespace Ses
open Pip
section
variable {T:Esc.bA} {n:Nat} {s:St} {sb:Nat} {h:Own.Heap} {w:World}
theorem aKh (i : Is s sb h) (hw : Own.Has w h) (n : Nat) (hn : n ≤ 10000) (ho : s.out.length ≤ 1000000000000) :
  Calls prog 59 #[.pointer (some ⟨sb,1,none⟩),.int .i64 (n:Int)] w fun e w'=>(∃ v,e = .returned v) /\ ∃ h',Is { s with out:=s.out.take n } sb h' /\ Own.aA h h' w w':=by
 obtain ⟨rb,bb,r,lv,pv,hq,hp,a,rfl⟩:=i;refine (Queue.aI5 (eV hw) a.q 1 rfl n hn ho).mono ?_;rintro e W ⟨hv,lv',hq',q',t⟩;exact ⟨hv,_,⟨rb,bb,r,lv',pv,hq',hp,⟨a.f,a.l,a.a,q',a.p⟩,rfl⟩,eI t hw⟩
theorem aGs {Inv : Own.Heap → Prop} {c : Own.Heap} (hc : Inv c) (i : Is s sb h) (hw : Own.Has w (h ++ c)) (g : s.Good T n) (hn : n ≤ 2500) (hB : ∀ x ∈ Own.blocks (h ++ c), Esc.tabsEnd ≤ x) (hT : Esc.bP T w)
  (cap cap2:Value) (f:Int -> Bool) (HK:∀ (W:World) (z:Nat) (d:Own.Heap),Inv d -> Own.Has W d -> z <= 1000000000000 -> Calls prog 35 #[.int .i64 (z:Int),cap,cap2] W fun e w'=>e = .returned (.bool (f (z:Int))) /\ ∃ d',Inv d' /\ Own.aA d d' W w') :
  Calls prog 34 #[.pointer (some ⟨sb,0,none⟩),.func (.func 35) #[] #[cap,cap2]] w fun e w'=>e = .returned (.int .i64 ((s.run (aO T) (some f) 16).2:Int)) /\ ∃ h',Is (s.run (aO T) (some f) 16).1 sb h' /\ ∃ c',Inv c' /\ Own.aA (h ++ c) (h' ++ c') w w':=by
 have qF:∀ W,(binOp .neq 60 (.func (.func 35) #[] #[cap,cap2]) .nilFunc).run prog W = .ok (.bool true) W:=fun W=>by kernel_rfl
 have HB:=hhh (ai hB (ai hT hn));have R0:=hhh (Ran.start (T:=T) (may:=some f) g);have I0:=hhh i;have T0:=hhh (Own.aA.refl hw);have HF:=hhh HK;obtain ⟨O,hO⟩:∃ O,O=s.run (aO T) (some f) 16:=⟨_,rfl⟩;rw [<- hO];have HO:=hhh hO;clear i hw g hn hB hT hO HK;go_enter func34,ntmps34;go_wp2;go_loopw [5] (fun x wr=>∃ (k:Nat) (t:St) (h' c':Own.Heap),x = .int .i64 k /\ Ran T (some f) n s t k /\ Is t sb h' /\ Own.aA (h ++ c) (h' ++ c') w wr /\ Inv c') (fun x _=>16 - (intOf x).toNat)
 case atStart=>exact ⟨0,s,h,c,rfl,R0.o,I0.o,T0.o,hc⟩
 case round =>
  obtain ⟨k,t,h',c',rfl,R,i,tt,hcI⟩:=hrel;have HI:=hhh hcI;clear hcI;have hk:=R.le;have HRd:=hhh (nG i tt.has.left);have H:=hhh (ai R (ai i tt));by_cases hk16:k=16
  ·have HOk:=hhh (R.off (.inl hk16))
   subst hk16;clear R i tt hk;go_wp2;go_ret;have e1:O=(t,16):=HO.o.trans HOk.o;exact ⟨by rw [e1];rfl,h',by rw [e1];exact H.o.2.1,c',HI.o,H.o.2.2⟩
  have hk2:k < 16:=by omega
  cases hr:t.ready with
  | false =>
   have HOk:=hhh (R.off (.inr hr));rw [hr] at HRd;clear R i tt hk hk16 hr;go_wp2_with (fail);refine HRd.o.mono ?_;rintro e W1 ⟨rfl,rfl⟩;go_wp2;go_ret;have e1:O=(t,k):=HO.o.trans HOk.o;exact ⟨by rw [e1];rfl,h',by rw [e1];exact H.o.2.1,c',HI.o,H.o.2.2⟩
  | true =>
   rw [hr] at HRd;have Hth:=tt.has
   have HQL:=hhh (fun m=>(show Calls prog 56 #[.pointer (some ⟨sb,1,none⟩)] (wr.drewN m) fun e w'=>e = .returned (.int .i64 (t.out.length:Int)) /\ w'=wr.drewN m by
    obtain ⟨rb,bb,r,lv,pv,hq,hp,a,rfl⟩:=i
    exact Queue.eQ (Hth.left.drewN m) mcs 1 rfl))
   have c9:wr.cell? ⟨sb,9,none⟩=some (.bool t.told):=by
    obtain ⟨rb,bb,r,lv,pv,hq,hp,a,rfl⟩:=i;exact Hth.left.cell sb 87 _ mcs 9 _ rfl
   have hBt:∀ x ∈ Own.blocks h',Esc.tabsEnd <= x:=fun x hx=>tt.least HB.o.1 HB.o.2.1.size x (by rw [Own.blocks,List.map_append,List.mem_append];exact .inl hx)
   have HOn:=hhh (fun m=>aHb i (Hth.left.drewN m) R.good (by have:=HB.o.2.2;omega) (iV hr) hBt (HB.o.2.1.of ((tt.drewN m).below HB.o.1 HB.o.2.1.size)));have HR:=hhh (R.on HB.o.2.2 hk2 hr);have HG:=hhh (sY R.good (by have:=HB.o.2.2;omega) (iV hr));have HW:=hhh (aFy hr);obtain ⟨Z,hZ⟩:∃ Z,Z=(t.once (aO T)).aH:=⟨_,rfl⟩;have HZ:=hhh (ai hZ (show Z <= 1000000000000 by rw [hZ];have:=uL HG.o;have:=HB.o.2.2;omega))
   cases hf:f (Z:Int) with
   | true =>
    have HP:=hhh (rI (aO T) f t (by rw [<- hZ];exact hf));have HFz:=hhh hf;clear R i tt hk hk16 hr hZ hBt Hth hf;go_wp2_with (fail);refine HRd.o.mono ?_;rintro e W1 ⟨rfl,rfl⟩;go_wp2_with (fail);go_quiet (exact Calls.quiet_of_same (HQL.o _));go_wp2_with (fail);refine (HOn.o _).mono ?_;rintro e W2 ⟨⟨v,rfl⟩,h2,i2,t2⟩;have H2:=hhh (ai i2 ((H.o.2.2.drewN _).trans (t2.frame (H.o.2.2.has.drewN _))));clear i2 t2 HOn HQL HRd;go_wp2_with (fail);refine (cK H2.o.1 H2.o.2.has.left HG.o (by have:=HB.o.2.2;omega)).mono ?_;rintro e W3 ⟨rfl,m3,rfl⟩;rw [<- HZ.o.1];go_wp2_with (fail);refine (HF.o _ Z c' HI.o (H2.o.2.has.right.drewN _) HZ.o.2).mono ?_;rintro e W4 ⟨rfl,c4,hc4,t4⟩;have H4:=hhh (ai hc4 ((H2.o.2.drewN m3).trans (t4.behind (H2.o.2.has.drewN m3))));clear hc4 t4;rw [HFz.o];go_wp2;go_roundw
    case rel=>exact ⟨k + 1,_,h2,c4,by congr 1,HR.o,by rw [HP.o];exact H2.o.1,H4.o.2,H4.o.1⟩
    case measure=>simp [intOf];omega
   | false =>
    have HP:=hhh (aCt (aO T) f t (by rw [<- hZ];exact hf));have HFz:=hhh hf;clear R i tt hk hk16 hr hZ hBt Hth hf;go_wp2_with (fail);refine HRd.o.mono ?_;rintro e W1 ⟨rfl,rfl⟩;go_wp2_with (fail);go_quiet (exact Calls.quiet_of_same (HQL.o _));go_wp2_with (fail);refine (HOn.o _).mono ?_;rintro e W2 ⟨⟨v,rfl⟩,h2,i2,t2⟩;have H2:=hhh (ai i2 ((H.o.2.2.drewN _).trans (t2.frame (H.o.2.2.has.drewN _))));clear i2 t2 HOn HQL HRd;go_wp2_with (fail);refine (cK H2.o.1 H2.o.2.has.left HG.o (by have:=HB.o.2.2;omega)).mono ?_;rintro e W3 ⟨rfl,m3,rfl⟩;rw [<- HZ.o.1];go_wp2_with (fail);refine (HF.o _ Z c' HI.o (H2.o.2.has.right.drewN _) HZ.o.2).mono ?_;rintro e W4 ⟨rfl,c4,hc4,t4⟩;have H4:=hhh (ai hc4 ((H2.o.2.drewN m3).trans (t4.behind (H2.o.2.has.drewN m3))));clear hc4 t4;rw [HFz.o];go_wp2_with (fail);refine (aKh H2.o.1 H4.o.2.has.left t.out.length (by have:=HW.o;omega) (by have:=HG.o.out;have:=HB.o.2.2;omega)).mono ?_;rintro e W5 ⟨⟨v5,rfl⟩,h5,i5,t5⟩;have H5:=hhh (ai i5 (H4.o.2.trans (t5.frame H4.o.2.has)));clear i5 t5;go_wp2_with (fail);refine (fV H5.o.1 H5.o.2.has.left 11 t.told (by have:=HW.o;show (List.take _ _).length <= _;rw [List.length_take];omega)).mono ?_;rintro e W6 ⟨⟨v6,rfl⟩,h6,i6,t6⟩;have H6:=hhh (ai i6 (H5.o.2.trans (t6.frame H5.o.2.has)));clear i6 t6;go_wp2;go_roundw
    case rel=>exact ⟨k + 1,_,h6,c4,by congr 1,HR.o,by rw [HP.o];exact H6.o.1,H6.o.2,H4.o.1⟩
    case measure=>simp [intOf];omega
end
end Ses
end
end Go.Proofs.YtcjflgmcjfcodaaGreat
