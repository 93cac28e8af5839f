/- Texts of the walk, joined. -/
import Derived.Test.YtcjflgmcjfcodaaGreatM09
import Derived.Test.YtcjflgmcjfcodaaGreatM34
import Derived.Test.YtcjflgmcjfcodaaGreatM39
import Derived.Deep.RegionWith
import Derived.StillTailTactics
set_option maxRecDepth 100000
set_option maxHeartbeats 8000000
namespace Go.Proofs.Tryz end Go.Proofs.Tryz
namespace Go.Proofs.YtcjflgmcjfcodaaGreat
open Go.Proofs.Tryz
section
open Go.RowKit
namespace Ses
open Pip
theorem aG4 (e:Nat):UInt8.ofNat ((e:Int) % 256).toNat=UInt8.ofNat e:=by
 apply UInt8.toNat_inj.1;rw [UInt8.toNat_ofNat',UInt8.toNat_ofNat'];omega
theorem oG {a:Own.Heap} {x:Nat × Obj} {hq g hp:Own.Heap} {u v:World} (t:Own.aA a (x :: (hq ++ (g ++ hp))) u v):Own.aA a (x :: (hq ++ (g ++ []))) u v:=by
 have e:x :: (hq ++ (g ++ hp))=(x :: (hq ++ (g ++ []))) ++ hp:=by simp
 rw [e] at t;exact t.drop
def last (e:Nat) (told:Bool):List UInt8:=[if told then 255 else 78,UInt8.ofNat e]
section
variable {s:St} {sb:Nat} {h:Own.Heap} {w:World}
theorem uM {a R : Own.Heap} {u v : World} {pre : List Value} (hp : pre.length = 1) {lv pv : Value} {c : List UInt8} (t : Own.aA a (Queue.at_ sb 87 pre lv c (post s pv) :: R) u v) (e : Nat) :
  Own.aA a (Queue.at_ sb 87 pre lv c (post { s with ended:=true,e:=e } (.pointer none)) :: R) u (((v.setCell ⟨sb,12,none⟩ (.bool true)).setCell ⟨sb,13,none⟩ (.int .i64 (e:Int))).setCell ⟨sb,10,none⟩ (.pointer none)):=by
 obtain ⟨p,rfl⟩:∃ p,pre=[p]:=by
  match pre,hp with
  | [p],_=>exact ⟨p,rfl⟩
 have t2:=((t.set 12 (.bool true) (by simp [post])).set 13 (.int .i64 (e:Int)) (by simp [post])).set 10 (.pointer none) (by simp [post]);exact t2
theorem fV (i : Is s sb h) (hw : Own.Has w h) (e : Nat) (told : Bool) (ho : s.out.length ≤ 999999999990) :
  Calls prog 60 #[.pointer (some ⟨sb,0,none⟩),.int .i64 (e:Int),.bool told] w fun r w'=>(∃ v,r = .returned v) /\ ∃ h',Is (s.stop e told) sb h' /\ Own.aA h h' w w':=by
 obtain ⟨rb,bb,r,lv,pv,hq,hp,a,rfl⟩:=i;have HN:=hhh (fun W=>aLu (e:Int) W);have HTr:=hhh (fun W=>xH (e:Int) W);rw [aG4] at HN HTr;have Hw:=hhh hw;have AA:=hhh (ai a ho);clear hw a ho
 cases told
 case false =>
  go_enter func60,ntmps60;go_wp2;go_region_with (first | (go_at_call 76;refine (HN.o _).mono ?_;rintro e1 W1 ⟨rfl,b1⟩;have T1:=hhh (((Own.aA.refl Hw.o).drew).trans (Own.aA.aJ Hw.o.drew b1));clear b1) | (go_at_call 70;refine (Queue.fX (eV T1.o.has) AA.o.1.q 1 rfl ⟨([78,UInt8.ofNat e]:List UInt8).toArray⟩ (by have:=AA.o.2;show s.out.length + 2 <= 1000000000000;omega)).mono ?_;rintro e2 W2 ⟨⟨v2,rfl⟩,lv',hq',q',t2⟩;have T2:=hhh (T1.o.trans (eI t2 T1.o.has));have Q2:=hhh q';clear t2 q'))
  all_goals
   have T3:=uM (pre:=[.pointer (some ⟨rb,0,none⟩)]) rfl T2.o e;have cell:=fun j v hj=>T2.o.has.cell sb 87 _ mcs j v hj
   have c0:=cell 0 _ rfl;have c10:=cell 10 _ rfl;have c12:=cell 12 _ rfl;have c13:=cell 13 _ rfl;have f10:=T2.o.has.free sb 87 _ mcs 10;have f12:=T2.o.has.free sb 87 _ mcs 12;have f13:=T2.o.has.free sb 87 _ mcs 13;have TT3:=hhh T3;clear T3 cell;go_wp2_with (fail);refine (Ring.uA (iX TT3.o.has) AA.o.1.f).mono ?_;rintro e3 W3 ⟨r',⟨v3,rfl⟩,f',hl',ha',t4⟩;go_wp2;go_end0;exact ⟨⟨_,rfl⟩,_,⟨rb,bb,r',lv',.pointer none,hq',[],⟨f',hl'.trans AA.o.1.l,ha',Q2.o,rfl,rfl⟩,rfl⟩,oG (TT3.o.trans (kM t4 TT3.o.has))⟩
 case true =>
  go_enter func60,ntmps60;go_wp2;go_region_with (first | (go_at_call 75;refine (HTr.o _).mono ?_;rintro e1 W1 ⟨rfl,b1⟩;have T1:=hhh (((Own.aA.refl Hw.o).drew).trans (Own.aA.aJ Hw.o.drew b1));clear b1) | (go_at_call 70;refine (Queue.fX (eV T1.o.has) AA.o.1.q 1 rfl ⟨([255,UInt8.ofNat e]:List UInt8).toArray⟩ (by have:=AA.o.2;show s.out.length + 2 <= 1000000000000;omega)).mono ?_;rintro e2 W2 ⟨⟨v2,rfl⟩,lv',hq',q',t2⟩;have T2:=hhh (T1.o.trans (eI t2 T1.o.has));have Q2:=hhh q';clear t2 q'))
  all_goals
   have T3:=uM (pre:=[.pointer (some ⟨rb,0,none⟩)]) rfl T2.o e;have cell:=fun j v hj=>T2.o.has.cell sb 87 _ mcs j v hj
   have c0:=cell 0 _ rfl;have c10:=cell 10 _ rfl;have c12:=cell 12 _ rfl;have c13:=cell 13 _ rfl;have f10:=T2.o.has.free sb 87 _ mcs 10;have f12:=T2.o.has.free sb 87 _ mcs 12;have f13:=T2.o.has.free sb 87 _ mcs 13;have TT3:=hhh T3;clear T3 cell;go_wp2_with (fail);refine (Ring.uA (iX TT3.o.has) AA.o.1.f).mono ?_;rintro e3 W3 ⟨r',⟨v3,rfl⟩,f',hl',ha',t4⟩;go_wp2;go_end0;exact ⟨⟨_,rfl⟩,_,⟨rb,bb,r',lv',.pointer none,hq',[],⟨f',hl'.trans AA.o.1.l,ha',Q2.o,rfl,rfl⟩,rfl⟩,oG (TT3.o.trans (kM t4 TT3.o.has))⟩
end
end Ses
end
section
namespace Ses
open Pip
open Json (Part)
def fresh (l:List UInt8):St:={ St.new with inb:=l }
theorem aBl (l b:List UInt8) (room:Int):(fresh l).feed b room=fresh (l ++ b.take ((fresh l).cE b room)):=rfl
theorem yH (l b:List UInt8) (room:Int):(fresh l).cE b room=min (min b.length room.toNat) (64 - l.length):=rfl
theorem aAo (T:Esc.bA) (l:List UInt8) (h:l.length <= 64):(fresh l).Good T 0 :=
 ⟨h,Nat.zero_le _,Nat.zero_le _,fun _=>rfl,(fun h=>by cases h),(fun h=>by cases h),(fun p h=>by cases h)⟩
theorem uT {s:St} (h:s.ended=false):s.aH=s.inb.length + s.out.length + (heldO s.p + 2):=by
 unfold St.aH;rw [h];rfl
theorem nZ (s:St) (e:Nat) (told:Bool):(s.stop e told).aH=s.out.length + 2:=by
 show 0 + (s.out ++ [_,_]).length + 0=_;rw [lla];simp
theorem rI (text:Part -> List UInt8) (f:Int -> Bool) (s:St) (h:f ((s.once text).aH:Int)=true):s.jC text (some f)=s.once text:=by
 unfold St.jC refused;simp only;rw [ifn (by simp [h])]
theorem aCt (text:Part -> List UInt8) (f:Int -> Bool) (s:St) (h:f ((s.once text).aH:Int)=false):s.jC text (some f)=({ s.once text with out:=(s.once text).out.take s.out.length }:St).stop 11 s.told:=by
 unfold St.jC refused;simp only;rw [ifp (by simp [h])]
theorem aFy {s:St} (h:s.ready=true):s.out.length < 64:=by
 unfold St.ready at h;simp only [Bool.and_eq_true,decide_eq_true_eq] at h;exact h.1.2
def aJh (s:St):Prop:=s.ended=true -> ∃ pre x,s.out=pre ++ [x,UInt8.ofNat s.e]
theorem iQ (s:St) (e:Nat) (told:Bool):aJh (s.stop e told):=fun _=>⟨s.out,_,rfl⟩
theorem oT {s:St} (h:s.ended=false):aJh s:=fun h2=>by rw [h] at h2;cases h2
theorem aFc (text:Part -> List UInt8) (s:St) (he:s.ended=false):aJh (s.once text):=by
 unfold St.once;split
 ·exact iQ _ _ _
 ·exact iQ _ _ _
 ·unfold St.byte
  simp only;split
  ·exact iQ _ _ _
  ·exact oT he
 ·unfold St.iP
  simp only;split
  ·exact oT he
  ·split
   ·exact oT he
   ·exact iQ _ _ _
 ·exact oT he
theorem aFh (text:Part -> List UInt8) (may:Option (Int -> Bool)) (s:St) (he:s.ended=false):aJh (s.jC text may):=by
 unfold St.jC;split
 ·exact iQ _ _ _
 ·exact aFc text s he
end Ses
end
section
open Go.RowKit
namespace Ses
open Pip
theorem aL1 {fn : Func} {p u : Tmp} {ty : TypeId} (h : fn.results = #[.cell p ty, .tmp u]) (tmps : Array Value) {P : Program} (w : World) (b : Nat) (v : Value)
  (hp:tmps.getD p undef = .pointer (some ⟨b,0,none⟩)) (hl:(loadVar ty ⟨b,0,none⟩).run P w = .ok v w) :
  (results fn tmps).run P w = .ok (.tuple #[v,tmps.getD u undef]) w:=by
 rw [results_cell_tmp h,hp];simp [asAddr,Result.andThen,hl]
theorem gD (w:World) (o:Obj):(w.alloc o).heap[w.heap.size]? = some o:=by
 show (w.heap.push o)[w.heap.size]? = some o;simp
def St.halt (s:St) (e:Nat):St:=if s.ended then s else s.stop e s.told
section
variable {T:Esc.bA} {n:Nat} {s:St} {sb:Nat} {h:Own.Heap} {w:World}
theorem uG (g:s.Good T n) (ho:s.out.length + 2 <= 300000000 * n) (e:Nat):(s.halt e).Good T n:=by
 unfold St.halt;split
 ·exact g
 ·exact gQ _ _ ho g.head
theorem oB (s:St) (e:Nat):(s.halt e).aH <= s.aH:=by
 unfold St.halt;split
 ·exact Nat.le_refl _
 ·rename_i h
  rw [nZ,uT (by simpa using h)];omega
theorem qV (i : Is s sb h) (hw : Own.Has w h) (e : Nat) (ho : s.out.length ≤ 999999999990) :
  Calls prog 39 #[.pointer (some ⟨sb,0,none⟩),.int .i64 (e:Int)] w fun r w'=>r = .returned (.bool (!s.ended)) /\ ∃ h',Is (s.halt e) sb h' /\ Own.aA h h' w w':=by
 have c9:w.cell? ⟨sb,9,none⟩=some (.bool s.told):=by
  obtain ⟨rb,bb,r,lv,pv,hq,hp,a,rfl⟩:=i;exact hw.cell sb 87 _ mcs 9 _ rfl
 have c12:w.cell? ⟨sb,12,none⟩=some (.bool s.ended):=by
  obtain ⟨rb,bb,r,lv,pv,hq,hp,a,rfl⟩:=i;exact hw.cell sb 87 _ mcs 12 _ rfl
 have HE:=hhh (fV i hw e s.told ho);have I:=hhh (ai i hw);clear i hw ho
 cases he:s.ended with
 | true =>
  rw [he] at c12;have HH:=hhh (show s.halt e=s by unfold St.halt;rw [he];rfl);clear he;go_enter func39,ntmps39;go_wp2;go_ret;exact ⟨rfl,h,by rw [HH.o];exact I.o.1,Own.aA.refl I.o.2⟩
 | false =>
  rw [he] at c12;have HH:=hhh (show s.halt e=s.stop e s.told by unfold St.halt;rw [he];rfl);clear he;go_enter func39,ntmps39;go_wp2_with (fail);refine HE.o.mono ?_;rintro r W1 ⟨⟨v,rfl⟩,h',i',t'⟩;have H1:=hhh (ai i' t');clear i' t' HE;go_wp2;go_ret;exact ⟨rfl,h',by rw [HH.o];exact H1.o.1,H1.o.2⟩
theorem tR (i : Is s sb h) (hw : Own.Has w h) :
  Calls prog 33 #[.pointer (some ⟨sb,0,none⟩)] w fun r w'=>r = .returned (.tuple #[s.setup.val,.bool s.told]) /\ Own.aA h h w w':=by
 obtain ⟨rb,bb,r,lv,pv,hq,hp,a,rfl⟩:=i;have T0:=fun (o:Obj)=>(Own.aA.refl hw).aD o
 have cell:=fun (o:Obj) j v hj=>(T0 o).has.cell sb 87 _ mcs j v hj
 have c4:=fun o=>cell o 4 _ rfl
 have c5:=fun o=>cell o 5 _ rfl
 have c6:=fun o=>cell o 6 _ rfl
 have c7:=fun o=>cell o 7 _ rfl
 have c8:=fun o=>cell o 8 _ rfl
 have c9:=fun o=>cell o 9 _ rfl
 have HT:=hhh T0;clear cell hw a T0;unfold Setup.val;go_enter func33,ntmps33;go_wp2;go_region
 all_goals go_wp2
 all_goals
  refine bodyPost_ret (aL1 rfl _ _ w.heap.size (.agg #[.int .i64 s.setup.from_,.int .i64 s.setup.to,.int .i64 s.setup.depth,.int .i64 s.setup.stage,.int .i64 s.setup.limit]) rfl
   (run_loadVar_row _ w.heap.size 28 28 #[.int .i64 s.setup.from_,.int .i64 s.setup.to,.int .i64 s.setup.depth,.int .i64 s.setup.stage,.int .i64 s.setup.limit] (0,0) _ (gD w _) underlying28 rfl (by kernel_rfl))) rfl ?_
  exact ⟨rfl,(HT.o _).drew⟩
end
end Ses
end
section
open Go.RowKit
namespace Queue
section
variable {w:World} {b:Nat} {T:TypeId} {pre post:List Value} {lv:Value} {c:List UInt8} {h:Own.Heap}
theorem aGt (k : Own.Has w (at_ b T pre lv c post :: h)) (P : Nat) (hP : P = pre.length) (z : Int) (hz : z < 0) (hc : c.length ≤ 41000) :
  Calls prog 63 #[.pointer (some ⟨b,P,none⟩),.int .i64 z] w fun e w'=>e = .returned (.string ⟨#[]⟩) /\
   Own.aA (at_ b T pre lv c post :: h) (at_ b T pre lv c post :: h) w w':=by
 have HL:=hhh (fun W (hW:Own.Has W (at_ b T pre lv c post :: h))=>eQ hW mcs P hP);have t0:Own.aA (at_ b T pre lv c post :: h) (at_ b T pre lv c post :: h) w (w.alloc (.cells #[.pointer none,.slice none 0 0] 115)):=(Own.aA.refl k).aD _;have HLT:=hhh (fun x (hx:x ∈ Own.blocks (at_ b T pre lv c post :: h))=>k.lt hx);have HB:=hhh (Bld.fresh w w.heap.size w.heap.size (Nat.le_refl _) rfl);have T0:=hhh t0;have hz0:¬ (0:Int) < z:=by omega
 have hmin:min z (c.length:Int)=z:=by omega
 clear t0 k hP hc hz;go_enter func63,ntmps63;go_wp2_with (fail);refine (HL.o _ T0.o.has).mono ?_;rintro e W1 ⟨rfl,rfl⟩;go_wp2;refine wp_loop_rounds 1 ?_;rw [rounds_succ];go_wp2_with (fail);refine (Tryz.Builder_String_any_k w.heap.size w.heap.size _ _ HB.o T0.o.keeps.size).mono ?_;rintro e W2 ⟨rfl,h1,h2,h3⟩;have T2:=hhh (jX T0.o HLT.o h2);clear h1 h2 h3;go_wp2;go_ret;exact ⟨rfl,T2.o⟩
end
end Queue
namespace Ses
open Pip
theorem oX (s:St) (m:Int):(s.write m).aH <= s.aH:=by
 unfold St.aH St.write;simp only [List.length_drop];omega
section
variable {s:St} {sb:Nat} {h:Own.Heap} {w:World}
theorem aCh (i : Is s sb h) (hw : Own.Has w h) (m : Int) (ho : s.out.length ≤ 41000) :
  Calls prog 41 #[.pointer (some ⟨sb,0,none⟩),.int .i64 m] w fun e w'=>e = .returned (.string ⟨(s.out.take m.toNat).toArray⟩) /\ ∃ h',Is (s.write m) sb h' /\ Own.aA h h' w w':=by
 obtain ⟨rb,bb,r,lv,pv,hq,hp,a,rfl⟩:=i;by_cases hm:0 <= m
 ·obtain ⟨n,rfl⟩:∃ n:Nat,m=(n:Int):=⟨m.toNat,by omega⟩
  have HT:=hhh (Queue.aHo (eV hw) a.q 1 rfl n ho);have Hw:=hhh (ai hw a);clear hw a ho hm;go_enter func41,ntmps41;go_wp2_with (fail);refine HT.o.mono ?_;rintro e W1 ⟨rfl,lv',hq',q',t1⟩;have H:=hhh (ai q' t1);clear q' t1 HT;go_wp2;go_ret;exact ⟨rfl,_,⟨rb,bb,r,lv',pv,hq',hp,⟨Hw.o.2.f,Hw.o.2.l,Hw.o.2.a,H.o.1,Hw.o.2.p⟩,rfl⟩,eI H.o.2 Hw.o.1⟩
 ·have HT:=hhh (Queue.aGt (eV hw) 1 rfl m (by omega) ho)
  have Hw:=hhh (ai hw a);have hz:m.toNat=0:=by omega
  have e1:s.write m=s:=by unfold St.write;rw [hz];rfl
  rw [e1,hz];clear hw a ho hm hz e1;go_enter func41,ntmps41;go_wp2_with (fail);refine HT.o.mono ?_;rintro e W1 ⟨rfl,t1⟩;have H:=hhh t1;clear t1 HT;go_wp2;go_ret;exact ⟨rfl,_,⟨rb,bb,r,lv,pv,hq,hp,Hw.o.2,rfl⟩,eI H.o Hw.o.1⟩
end
end Ses
end
section
open Go.RowKit
namespace Ses
open Pip
section
variable {T:Esc.bA} {n:Nat} {s:St} {sb rb bb:Nat} {r:Ring.St} {lv pv:Value} {hq hp h:Own.Heap} {w:World}
theorem take_one (a : At s sb rb bb r lv pv hq hp) (hw : Own.Has w (aDt s sb rb lv pv :: (hq ++ (Ring.heap r rb bb ++ hp)))) :
  Calls prog 68 #[.pointer (some ⟨rb,0,none⟩),.int .i64 1] w fun e w'=>e = .returned (.string ⟨(s.inb.take 1).toArray⟩) /\ ∃ r',At { s with inb:=s.inb.drop 1 } sb rb bb r' lv pv hq hp /\
   Own.aA (aDt s sb rb lv pv :: (hq ++ (Ring.heap r rb bb ++ hp))) (aDt s sb rb lv pv :: (hq ++ (Ring.heap r' rb bb ++ hp))) w w':=by
 refine (Ring.wZ (iX hw) a.f 1 (by omega)).mono ?_;rintro e w' ⟨r',rfl,f',hl',ha',t⟩;rw [a.a];exact ⟨rfl,r',⟨f',hl'.trans a.l,by rw [ha',a.a],a.q,a.p⟩,kM t hw⟩
theorem xZ {S:ByteArray} (h:S.data.toList=[]):S.toList.isEmpty=true:=by rw [ByteArray.toList_eq,h];rfl
theorem tS {S:ByteArray} (h:S.data.toList ≠ []):S.toList.isEmpty=false:=by rw [ByteArray.toList_eq];cases hs:S.data.toList with | nil=>exact absurd hs h | cons x l=>rfl
theorem aEt (i : Is s sb h) (hw : Own.Has w h) (ho : s.out.length ≤ 999999999990) (hi : s.inb = []) (ht : s.told = false) :
  Calls prog 58 #[.pointer (some ⟨sb,0,none⟩)] w fun r w'=>(∃ v,r = .returned v) /\ ∃ h',Is (s.stop 3 false) sb h' /\ Own.aA h h' w w':=by
 obtain ⟨rb,bb,r,lv,pv,hq,hp,a,rfl⟩:=i;have HTk:=hhh (take_one a hw);have c0:=hw.cell sb 87 _ mcs 0 _ rfl;obtain ⟨S,hS⟩:∃ S:ByteArray,S=⟨(s.inb.take 1).toArray⟩:=⟨_,rfl⟩;have e0:=xZ (S:=S) (by rw [hS,hi];rfl);rw [<- hS] at HTk;have HO:=hhh ho;clear hw a hS hi ho;go_enter func58,ntmps58;go_wp2_with (fail);refine HTk.o.mono ?_;rintro e w1 ⟨rfl,r',a1,t1⟩;have c9:=t1.has.cell sb 87 _ mcs 9 _ rfl;rw [ht] at c9;have HE:=hhh (show Calls prog 60 #[.pointer (some ⟨sb,0,none⟩),.int .i64 3,.bool false] w1 _ from fV (s:={ s with inb:=s.inb.drop 1 }) ⟨rb,bb,r',lv,pv,hq,hp,a1,rfl⟩ t1.has 3 false HO.o);have T1:=hhh t1;clear a1 t1 HTk ht;go_wp2_with (fail);refine HE.o.mono ?_;rintro e w2 ⟨⟨v,rfl⟩,h',i',t'⟩;have H:=hhh (ai i' (T1.o.trans t'));clear i' t' HE;go_wp2;go_end0;exact ⟨⟨_,rfl⟩,h',H.o.1,H.o.2⟩
theorem aGf (i : Is s sb h) (hw : Own.Has w h) (g : s.Good T n) (hn : n ≤ 2600) (hB : ∀ x ∈ Own.blocks h, Esc.tabsEnd ≤ x) (hT : Esc.bP T w) (hi : s.inb = []) (ht : s.told = true) (p : Pp) (hp0 : s.p = some p) :
  Calls prog 58 #[.pointer (some ⟨sb,0,none⟩)] w fun r w'=>(∃ v,r = .returned v) /\ ∃ h',Is (({ s with out:=s.out ++ (p.fin (aO T)).2.1 }:St).stop (p.fin (aO T)).2.2 true) sb h' /\ Own.aA h h' w w':=by
 obtain ⟨rb,bb,r,lv,pv,hq,hp,a,rfl⟩:=i;have HTk:=hhh (take_one a hw);have c0:=hw.cell sb 87 _ mcs 0 _ rfl;obtain ⟨S,hS⟩:∃ S:ByteArray,S=⟨(s.inb.take 1).toArray⟩:=⟨_,rfl⟩;have e0:=xZ (S:=S) (by rw [hS,hi];rfl);rw [<- hS] at HTk;obtain ⟨hf,hv,_,_⟩:=g.fits hp0;have hfl:(p.fin (aO T)).2.1.length <= 290000000:=by
  obtain ⟨hr,hm,d,hd,hpd⟩:=g.pipe p hp0;rw [hpd];exact fF s.setup hr d (by omega)
 have HEnd:=hhh (fun (b:Nat) (hh:Own.Heap) (W:World) (hi:p.Is b hh) (hW:Own.Has W hh) (hBW:∀ x ∈ Own.blocks hh,Esc.tabsEnd <= x) (hTW:Esc.bP T W)=>aHk T hi hW hf (by omega) hv hBW hTW);generalize p.fin (aO T)=o at HEnd hfl |-;obtain ⟨p2,t2,e2⟩:=o;simp only at HEnd hfl |-;have ho:s.out.length + t2.length + 2 <= 999999999990:=by have:=g.out;omega
 have HO:=hhh ho;have HBT:=hhh (ai hw (ai hB hT));have HP0:=hhh hp0;clear hw a hS hi ho hf hv hfl g hn hp0 hB hT;go_enter func58,ntmps58;go_wp2_with (fail);refine HTk.o.mono ?_;rintro e w1 ⟨rfl,r',a1,t1⟩;have c9:=t1.has.cell sb 87 _ mcs 9 _ rfl;have c10:=t1.has.cell sb 87 _ mcs 10 _ rfl;rw [ht] at c9;have hPI:=a1.p;rw [show ({ s with inb:=s.inb.drop 1 }:St).p=some p from HP0.o] at hPI;obtain ⟨pb,rfl,hpi⟩:=hPI;have hB1:=t1.least HBT.o.2.1 HBT.o.2.2.size;have hT1:=HBT.o.2.2.of (t1.below HBT.o.2.1 HBT.o.2.2.size)
 have HE:=hhh (HEnd.o pb hp w1 hpi (pI t1.has) (fun x hx=>hB1 x (by
  simp only [Own.blocks,List.map_cons,List.map_append,List.mem_cons,List.mem_append] at hx |-
  exact .inr (.inr (.inr hx)))) hT1)
 have T1:=hhh t1;have A1:=hhh a1;clear a1 t1 HTk ht hpi hB1 hT1;go_wp2_with (fail);refine HE.o.mono ?_;rintro e w2 ⟨hp2,rfl,i2,t2'⟩;have T2:=hhh (T1.o.trans (mX t2' T1.o.has));have HA:=hhh (Queue.fX (eV T2.o.has) A1.o.q 1 rfl ⟨t2.toArray⟩ (by have:=HO.o;show s.out.length + t2.length <= 1000000000000;omega));have I2:=hhh i2;clear i2 t2' HE;go_wp2_with (fail);refine HA.o.mono ?_;rintro e w3 ⟨⟨v,rfl⟩,lv3,hq3,q3,t3⟩;have T3:=hhh (T2.o.trans (eI t3 T2.o.has));have i3:Is ({ s with inb:=s.inb.drop 1,out:=s.out ++ t2,p:=some p2 }:St) sb _:=⟨rb,bb,r',lv3,.pointer (some ⟨pb,0,none⟩),hq3,hp2,⟨A1.o.f,A1.o.l,A1.o.a,q3,pb,rfl,I2.o⟩,rfl⟩;have HF:=hhh (fV i3 T3.o.has e2 true (by have:=HO.o;show (s.out ++ t2).length <= _;rw [lla];omega));clear q3 t3 i3 HA;go_wp2_with (fail);refine HF.o.mono ?_;rintro e w4 ⟨⟨v,rfl⟩,h',i',t'⟩;have H:=hhh (ai i' (T3.o.trans t'));clear i' t' HF;go_wp2;go_end0;exact ⟨⟨_,rfl⟩,h',H.o.1,H.o.2⟩
theorem aD9 (i : Is s sb h) (hw : Own.Has w h) (g : s.Good T n) (hn : n ≤ 2600) (hB : ∀ x ∈ Own.blocks h, Esc.tabsEnd ≤ x) (hT : Esc.bP T w) (b : UInt8) (l : List UInt8) (hi : s.inb = b :: l) (ht : s.told = true) (p : Pp) (hp0 : s.p = some p) :
  Calls prog 58 #[.pointer (some ⟨sb,0,none⟩)] w fun r w'=>(∃ v,r = .returned v) /\ ∃ h',Is (({ s with inb:=l }:St).byte (aO T) p b) sb h' /\ Own.aA h h' w w':=by
 obtain ⟨rb,bb,r,lv,pv,hq,hp,a,rfl⟩:=i;have HTk:=hhh (take_one a hw);have c0:=hw.cell sb 87 _ mcs 0 _ rfl;obtain ⟨S,hS⟩:∃ S:ByteArray,S=⟨(s.inb.take 1).toArray⟩:=⟨_,rfl⟩;have e0:=tS (S:=S) (by rw [hS,hi];simp);rw [<- hS] at HTk;have hz:S.size=1:=by rw [hS,hi];rfl
 have hz0:0 < S.size:=by omega
 have hS0:S[0]=b:=by
  have:S=⟨#[b]⟩:=by rw [hS,hi];rfl
  subst this;rfl
 obtain ⟨hf,hv,_,_⟩:=g.fits hp0;have hfl:(p.step (aO T) b).2.1.length <= 290000000:=by
  obtain ⟨hr,hm,d,hd,hpd⟩:=g.pipe p hp0;rw [hpd];exact eH s.setup hr d b (by omega)
 have HEnd:=hhh (fun (pb:Nat) (hh:Own.Heap) (W:World) (hi:p.Is pb hh) (hW:Own.Has W hh) (hBW:∀ x ∈ Own.blocks hh,Esc.tabsEnd <= x) (hTW:Esc.bP T W)=>aD1 T hi hW hf (by omega) hv S[0] hBW hTW);rw [hS0] at HEnd;unfold St.byte;simp only;generalize p.step (aO T) b=o at HEnd hfl |-;obtain ⟨p2,t2,e2⟩:=o;simp only at HEnd hfl |-;rw [<- hS0] at HEnd;have HR1:=hhh (show e2=0 -> (if e2 ≠ 0 then ({ s with inb:=l,out:=s.out ++ t2,p:=some p2 }:St).stop e2 true else ({ s with inb:=l,out:=s.out ++ t2,p:=some p2 }:St))=({ s with inb:=l,out:=s.out ++ t2,p:=some p2 }:St) from fun h0=>ifn (not_not_intro h0));have HR2:=hhh (show e2 ≠ 0 -> (if e2 ≠ 0 then ({ s with inb:=l,out:=s.out ++ t2,p:=some p2 }:St).stop e2 true else ({ s with inb:=l,out:=s.out ++ t2,p:=some p2 }:St))=({ s with inb:=l,out:=s.out ++ t2,p:=some p2 }:St).stop e2 true from fun h0=>ifp h0);generalize (if e2 ≠ 0 then ({ s with inb:=l,out:=s.out ++ t2,p:=some p2 }:St).stop e2 true else ({ s with inb:=l,out:=s.out ++ t2,p:=some p2 }:St))=R at HR1 HR2 |-;have ho:s.out.length + t2.length + 2 <= 999999999990:=by have:=g.out;omega
 have HO:=hhh ho;have HBT:=hhh (ai hw (ai hB hT));have HP0:=hhh hp0;have HL:=hhh (show s.inb.drop 1=l by rw [hi];rfl);clear hw a hS hi ho hf hv hfl g hn hp0 hB hT hS0;go_enter func58,ntmps58;go_wp2_with (fail);refine HTk.o.mono ?_;rintro e w1 ⟨rfl,r',a1,t1⟩;have c9:=t1.has.cell sb 87 _ mcs 9 _ rfl;have c10:=t1.has.cell sb 87 _ mcs 10 _ rfl;rw [ht] at c9;have hPI:=a1.p;rw [show ({ s with inb:=s.inb.drop 1 }:St).p=some p from HP0.o] at hPI;obtain ⟨pb,rfl,hpi⟩:=hPI;have hB1:=t1.least HBT.o.2.1 HBT.o.2.2.size;have hT1:=HBT.o.2.2.of ((t1.drew).below HBT.o.2.1 HBT.o.2.2.size)
 have HE:=hhh (HEnd.o pb hp w1.drew hpi (pI t1.has).drew (fun x hx=>hB1 x (by
  simp only [Own.blocks,List.map_cons,List.map_append,List.mem_cons,List.mem_append] at hx |-
  exact .inr (.inr (.inr hx)))) hT1)
 have T1:=hhh t1.drew;have A1:=hhh a1;clear a1 t1 HTk ht hpi hB1 hT1 HEnd;go_wp2_with (fail);go_region_with (first | (go_at_call 71;refine HE.o.mono ?_;rintro e w2 ⟨hp2,rfl,i2,t2'⟩;have T2:=hhh (T1.o.trans (mX t2' T1.o.has));have I2:=hhh i2;clear i2 t2'))
 all_goals
  have HA:=hhh (Queue.fX (eV T2.o.has) A1.o.q 1 rfl ⟨t2.toArray⟩ (by have:=HO.o;show s.out.length + t2.length <= 1000000000000;omega));clear HE;go_wp2_with (fail);refine HA.o.mono ?_;rintro e w3 ⟨⟨v,rfl⟩,lv3,hq3,q3,t3⟩;have T3:=hhh (T2.o.trans (eI t3 T2.o.has));have I3:=hhh (show Is ({ s with inb:=l,out:=s.out ++ t2,p:=some p2 }:St) sb _ from ⟨rb,bb,r',lv3,.pointer (some ⟨pb,0,none⟩),hq3,hp2,⟨A1.o.f,A1.o.l,A1.o.a.trans HL.o,q3,pb,rfl,I2.o⟩,rfl⟩);have HF:=hhh (fV I3.o T3.o.has e2 true (by have:=HO.o;show (s.out ++ t2).length <= _;rw [lla];omega));clear q3 t3 HA;by_cases h0:e2=0
  ·have H0:=hhh (HR1.o h0)
   have hne:((e2:Int) != 0)=false:=by rw [h0];rfl
   clear h0;go_wp2;go_end0;exact ⟨⟨_,rfl⟩,_,H0.o ▸ I3.o,T3.o⟩
  ·have hne:((e2:Int) != 0)=true:=by rw [bne_iff_ne];omega
   have H0:=hhh (HR2.o h0);clear h0;go_wp2_with (fail);refine HF.o.mono ?_;rintro e w4 ⟨⟨v,rfl⟩,h',i',t'⟩;have H:=hhh (ai i' (T3.o.trans t'));clear i' t' HF;go_wp2;go_end0;exact ⟨⟨_,rfl⟩,h',H0.o ▸ H.o.1,H.o.2⟩
end
end Ses
end
end Go.Proofs.YtcjflgmcjfcodaaGreat
