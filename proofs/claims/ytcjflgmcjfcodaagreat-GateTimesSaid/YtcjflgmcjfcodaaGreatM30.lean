/- Texts of the walk, joined. -/
import Derived.Test.YtcjflgmcjfcodaaGreatM04
import Derived.Test.YtcjflgmcjfcodaaGreatM27
import Derived.Test.YtcjflgmcjfcodaaGreatM28
import Derived.Test.YtcjflgmcjfcodaaGreatM29
set_option maxRecDepth 100000
set_option maxHeartbeats 8000000
namespace Go.Proofs.Tryz end Go.Proofs.Tryz
namespace Go.Proofs.YtcjflgmcjfcodaaGreat
open Go.Proofs.Tryz
section
open Go.RowKit
open Json (Part Wr)
namespace Pip
theorem aL5 (f:Int) (b:Nat) (hf:f=1 \/ f=2 \/ f=3):(Writer.new f).Is b [Own.row b (if f=1 then 145 else if f=2 then 149 else 153) [.slice none 0 0,.bool false]]:=by
 rcases hf with rfl | rfl | rfl
 ·exact Json.Wr.Is.zero b
 ·exact Cb.Is.zero b
 ·exact Pk.Is.zero b
theorem eO (s : Setup) (hr : right s = true) (w : World) :
  Calls prog 73 #[s.val] w fun e w'=>∃ b h,e = .returned (.pointer (some ⟨b,0,none⟩)) /\ (Pp.new s).Is b h /\ Own.aA [] h w w':=by
 have HR:=hhh (fun u=>nM s u);have hb:=(fT s).1 hr;rw [hr] at HR;obtain ⟨f,t,d,g,l⟩:=s;simp only at hb;obtain ⟨d,rfl⟩:∃ n:Nat,d=(n:Int):=⟨d.toNat,by omega⟩;obtain ⟨g,rfl⟩:∃ n:Nat,g=(n:Int):=⟨g.toNat,by omega⟩;obtain ⟨P,hP⟩:∃ P,P=Pp.new ⟨f,t,(d:Int),(g:Int),l⟩:=⟨_,rfl⟩;rw [<- hP];unfold Pp.new at hP;simp only [Int.toNat_natCast] at hP;have HP:=hhh hP;unfold Setup.val at HR |-;simp only at HR |-;have T0:=hhh ((Own.aA.refl (Own.Has.nil w)).aP w.heap.size rfl 28 [.int .i64 f,.int .i64 t,.int .i64 d,.int .i64 g,.int .i64 l]);have hf:f=1 \/ f=2 \/ f=3:=by omega
 have ht:t=1 \/ t=2 \/ t=3:=by omega
 have hd1:1 <= d:=by omega
 have hd2:d <= 16:=by omega
 have hg2:g <= 2000:=by omega
 have HS:=hhh (fun u=>zY g hg2 u)
 have HIn : ∃ (FN : Nat) (RT : TypeId), (∀ u, Calls prog FN #[.int .i64 (d : Int)] u fun e w' => ∃ b h, e = .returned (.pointer (some ⟨b, 0, none⟩)) ∧ (Reader.new f d).Is b h ∧ Own.aA [] h u w') ∧ (Reader.new f d).ty = RT ∧
   ((f=1 /\ FN=90 /\ RT=127) \/ (f=2 /\ FN=91 /\ RT=133) \/ (f=3 /\ FN=92 /\ RT=135)):=by
  rcases hf with rfl | rfl | rfl
  ·exact ⟨_,_,fun u=>aIa d hd1 hd2 u,rfl,.inl ⟨rfl,rfl,rfl⟩⟩
  ·exact ⟨_,_,fun u=>aAh d hd1 hd2 u,rfl,.inr (.inl ⟨rfl,rfl,rfl⟩)⟩
  ·exact ⟨_,_,fun u=>aB1 d hd1 hd2 u,rfl,.inr (.inr ⟨rfl,rfl,rfl⟩)⟩
 obtain ⟨FN,RT,HIn,hRT,hcase⟩:=HIn;have HRd:=hhh HIn;have HRT:=hhh hRT;clear HIn hRT hP hr hb hf hd1 hd2 hg2
 have Fin := hhh (fun (pb rb wb : Nat) (hr' : Own.Heap) (hv : Value) (hh : Own.Heap) (WT CT : TypeId) (u : World) (iR : (Reader.new f d).Is rb hr') (iW : (Writer.new t).Is wb [Own.row wb CT [.slice none 0 0, .bool false]]) (hW : (Writer.new t).ty = WT) (iH : HoldIs P.hold hv hh)
   (tt:Own.aA [] (Own.row w.heap.size 28 [.int .i64 f,.int .i64 t,.int .i64 d,.int .i64 g,.int .i64 l] :: (Own.row pb 126 [.iface RT (.pointer (some ⟨rb,0,none⟩)),.iface WT (.pointer (some ⟨wb,0,none⟩)),hv,.bool false,.int .i64 0] :: (hr' ++ ([Own.row wb CT [.slice none 0 0,.bool false]] ++ hh)))) w u) =>
   (show ∃ b h,Ending.returned (.pointer (some ⟨pb,0,none⟩)) = .returned (.pointer (some ⟨b,0,none⟩)) /\ P.Is b h /\ Own.aA [] h w u from
    ⟨pb,_,rfl,⟨rb,wb,hv,hr',_,hh,by rw [HP.o];unfold Pp.cells;simp only [HRT.o,hW];rfl,by rw [HP.o];exact iR,by rw [HP.o];exact iW,iH⟩,tt.forget (b:=[_])⟩))
 have HolN:=hhh (fun h:t ≠ 3=>(show HoldIs P.hold (.pointer none) [] by rw [HP.o];simp only [ifn h];exact ⟨rfl,rfl⟩));have HolS:=hhh (fun (h:t=3) (b:Nat) (hh:Own.Heap) (i:(Stg.new g).Is b hh)=>(show HoldIs P.hold (.pointer (some ⟨b,0,none⟩)) hh by rw [HP.o];simp only [ifp h];exact ⟨b,rfl,i⟩));have WZ:=hhh (fun b=>aL5 t b ht);rcases hcase with ⟨rfl,rfl,rfl⟩ | ⟨rfl,rfl,rfl⟩ | ⟨rfl,rfl,rfl⟩
 ·have HTt:=hhh ht
  clear ht;go_enter func73,ntmps73;go_wp2_with (fail);refine (HR.o _).mono ?_;rintro e w1 ⟨rfl,b1⟩;have T1:=hhh (((T0.o.trans (Own.aA.aJ T0.o.has b1)).aP w1.heap.size rfl 126 [.nilIface,.nilIface,.pointer none,.bool false,.int .i64 0]));have c0:=T1.o.has.cell w.heap.size _ _ (mcm _ mcs) 0 _ rfl;have c0':=(T0.o.trans (Own.aA.aJ T0.o.has b1)).has.cell w.heap.size _ _ mcs 0 _ rfl;have c2:=T1.o.has.cell w.heap.size _ _ (mcm _ mcs) 2 _ rfl;go_wp2_with (fail);refine (HRd.o _).mono ?_;rintro e w2 ⟨rb,hr',rfl,i2,t2⟩;have I2:=hhh i2;have T2:=hhh (show Own.aA [] (Own.row w1.heap.size 126 [.nilIface,.nilIface,.pointer none,.bool false,.int .i64 0] :: (Own.row w.heap.size 28 [.int .i64 1,.int .i64 t,.int .i64 d,.int .i64 g,.int .i64 l] :: hr')) w w2 from (T1.o.trans (t2.frame T1.o.has)).perm (.refl _) List.perm_append_comm);have g0:=T2.o.has.cell w1.heap.size _ _ mcs 0 _ rfl;have f0:=T2.o.has.free w1.heap.size _ _ mcs 0
  have T3:=hhh (show Own.aA [] (Own.row w1.heap.size 126 [.iface 127 (.pointer (some ⟨rb,0,none⟩)),.nilIface,.pointer none,.bool false,.int .i64 0] :: (Own.row w.heap.size 28 [.int .i64 1,.int .i64 t,.int .i64 d,.int .i64 g,.int .i64 l] :: hr')) w (w2.setCell ⟨w1.heap.size,0,none⟩ (.iface 127 (.pointer (some ⟨rb,0,none⟩)))) from
   T2.o.set 0 (.iface 127 (.pointer (some ⟨rb,0,none⟩))) (by simp))
  have c1:=T3.o.has.cell w.heap.size _ _ (mcm _ mcs) 1 _ rfl;clear i2 t2 c0 c0' c2;rcases HTt.o with rfl | rfl | rfl
  ·have T4:=hhh (T3.o.aP w2.heap.size (by rw [Own.aY]) 145 [.slice none 0 0,.bool false])
   have g1:=T4.o.has.cell w1.heap.size _ _ (mcm _ mcs) 1 _ rfl;have f1:=T4.o.has.free w1.heap.size _ _ (mcm _ mcs) 1;have T5:=hhh (show Own.aA [] (Own.row w2.heap.size 145 [.slice none 0 0,.bool false] :: (Own.row w1.heap.size 126 [.iface 127 (.pointer (some ⟨rb,0,none⟩)),.iface 142 (.pointer (some ⟨w2.heap.size,0,none⟩)),.pointer none,.bool false,.int .i64 0] :: (Own.row w.heap.size 28 [.int .i64 1,.int .i64 1,.int .i64 d,.int .i64 g,.int .i64 l] :: hr'))) w _ from Own.aA.setAt [_] T4.o 1 (.iface 142 (.pointer (some ⟨w2.heap.size,0,none⟩))) (by simp));go_wp2_with (fail);go_ret;exact Fin.out w1.heap.size rb w2.heap.size hr' (.pointer none) [] 142 _ _ I2.o (show (Writer.new 1).Is w2.heap.size [Own.row w2.heap.size 145 [.slice none 0 0,.bool false]] from Json.Wr.Is.zero _) rfl (HolN.o (by decide)) (T5.o.perm (.refl _) (Own.aE _ _ fun x=>by simp only [List.count_append,List.count_cons,List.count_nil];omega))
  ·have T4:=hhh (T3.o.aP w2.heap.size (by rw [Own.aY]) 149 [.slice none 0 0,.bool false])
   have g1:=T4.o.has.cell w1.heap.size _ _ (mcm _ mcs) 1 _ rfl;have f1:=T4.o.has.free w1.heap.size _ _ (mcm _ mcs) 1;have T5:=hhh (show Own.aA [] (Own.row w2.heap.size 149 [.slice none 0 0,.bool false] :: (Own.row w1.heap.size 126 [.iface 127 (.pointer (some ⟨rb,0,none⟩)),.iface 146 (.pointer (some ⟨w2.heap.size,0,none⟩)),.pointer none,.bool false,.int .i64 0] :: (Own.row w.heap.size 28 [.int .i64 1,.int .i64 2,.int .i64 d,.int .i64 g,.int .i64 l] :: hr'))) w _ from Own.aA.setAt [_] T4.o 1 (.iface 146 (.pointer (some ⟨w2.heap.size,0,none⟩))) (by simp));go_wp2_with (fail);go_ret;exact Fin.out w1.heap.size rb w2.heap.size hr' (.pointer none) [] 146 _ _ I2.o (show (Writer.new 2).Is w2.heap.size [Own.row w2.heap.size 149 [.slice none 0 0,.bool false]] from Cb.Is.zero _) rfl (HolN.o (by decide)) (T5.o.perm (.refl _) (Own.aE _ _ fun x=>by simp only [List.count_append,List.count_cons,List.count_nil];omega))
  ·have T4:=hhh (T3.o.aP w2.heap.size (by rw [Own.aY]) 153 [.slice none 0 0,.bool false])
   have g1:=T4.o.has.cell w1.heap.size _ _ (mcm _ mcs) 1 _ rfl;have f1:=T4.o.has.free w1.heap.size _ _ (mcm _ mcs) 1;have c3:=T4.o.has.cell w.heap.size _ _ (mcm _ (mcm _ mcs)) 3 _ rfl;go_wp2_with (fail);refine (HS.o _).mono ?_;rintro e w5 ⟨sb,hh,rfl,i5,t5⟩;have I5:=hhh i5
   have T5:=hhh (show Own.aA [] (Own.row w1.heap.size 126 [.iface 127 (.pointer (some ⟨rb,0,none⟩)),.nilIface,.pointer none,.bool false,.int .i64 0] :: (Own.row w2.heap.size 153 [.slice none 0 0,.bool false] :: (Own.row w.heap.size 28 [.int .i64 1,.int .i64 3,.int .i64 d,.int .i64 g,.int .i64 l] :: (hr' ++ hh)))) w w5 from
    (T4.o.trans (t5.frame T4.o.has)).perm (.refl _) (Own.aE _ _ fun x=>by simp only [List.count_append,List.count_cons];omega))
   have h1:=T5.o.has.cell w1.heap.size _ _ mcs 1 _ rfl;have k1:=T5.o.has.free w1.heap.size _ _ mcs 1;have T6:=hhh (show Own.aA [] (Own.row w1.heap.size 126 [.iface 127 (.pointer (some ⟨rb,0,none⟩)),.iface 150 (.pointer (some ⟨w2.heap.size,0,none⟩)),.pointer none,.bool false,.int .i64 0] :: (Own.row w2.heap.size 153 [.slice none 0 0,.bool false] :: (Own.row w.heap.size 28 [.int .i64 1,.int .i64 3,.int .i64 d,.int .i64 g,.int .i64 l] :: (hr' ++ hh)))) w _ from T5.o.set 1 (.iface 150 (.pointer (some ⟨w2.heap.size,0,none⟩))) (by simp));have h2:=T6.o.has.cell w1.heap.size _ _ mcs 2 _ rfl;have k2:=T6.o.has.free w1.heap.size _ _ mcs 2;have T7:=hhh (show Own.aA [] (Own.row w1.heap.size 126 [.iface 127 (.pointer (some ⟨rb,0,none⟩)),.iface 150 (.pointer (some ⟨w2.heap.size,0,none⟩)),.pointer (some ⟨sb,0,none⟩),.bool false,.int .i64 0] :: (Own.row w2.heap.size 153 [.slice none 0 0,.bool false] :: (Own.row w.heap.size 28 [.int .i64 1,.int .i64 3,.int .i64 d,.int .i64 g,.int .i64 l] :: (hr' ++ hh)))) w _ from T6.o.set 2 (.pointer (some ⟨sb,0,none⟩)) (by simp));clear i5 t5 c3 g1 f1;go_wp2_with (fail);go_ret;exact Fin.out w1.heap.size rb w2.heap.size hr' (.pointer (some ⟨sb,0,none⟩)) hh 150 _ _ I2.o (show (Writer.new 3).Is w2.heap.size [Own.row w2.heap.size 153 [.slice none 0 0,.bool false]] from Pk.Is.zero _) rfl (HolS.o (by first | rfl | trivial) sb hh I5.o) (T7.o.perm (.refl _) (Own.aE _ _ fun x=>by simp only [List.count_append,List.count_cons,List.count_nil];omega))
 ·have HTt:=hhh ht
  clear ht;go_enter func73,ntmps73;go_wp2_with (fail);refine (HR.o _).mono ?_;rintro e w1 ⟨rfl,b1⟩;have T1:=hhh (((T0.o.trans (Own.aA.aJ T0.o.has b1)).aP w1.heap.size rfl 126 [.nilIface,.nilIface,.pointer none,.bool false,.int .i64 0]));have c0:=T1.o.has.cell w.heap.size _ _ (mcm _ mcs) 0 _ rfl;have c0':=(T0.o.trans (Own.aA.aJ T0.o.has b1)).has.cell w.heap.size _ _ mcs 0 _ rfl;have c2:=T1.o.has.cell w.heap.size _ _ (mcm _ mcs) 2 _ rfl;go_wp2_with (fail);refine (HRd.o _).mono ?_;rintro e w2 ⟨rb,hr',rfl,i2,t2⟩;have I2:=hhh i2;have T2:=hhh (show Own.aA [] (Own.row w1.heap.size 126 [.nilIface,.nilIface,.pointer none,.bool false,.int .i64 0] :: (Own.row w.heap.size 28 [.int .i64 2,.int .i64 t,.int .i64 d,.int .i64 g,.int .i64 l] :: hr')) w w2 from (T1.o.trans (t2.frame T1.o.has)).perm (.refl _) List.perm_append_comm);have g0:=T2.o.has.cell w1.heap.size _ _ mcs 0 _ rfl;have f0:=T2.o.has.free w1.heap.size _ _ mcs 0
  have T3:=hhh (show Own.aA [] (Own.row w1.heap.size 126 [.iface 133 (.pointer (some ⟨rb,0,none⟩)),.nilIface,.pointer none,.bool false,.int .i64 0] :: (Own.row w.heap.size 28 [.int .i64 2,.int .i64 t,.int .i64 d,.int .i64 g,.int .i64 l] :: hr')) w (w2.setCell ⟨w1.heap.size,0,none⟩ (.iface 133 (.pointer (some ⟨rb,0,none⟩)))) from
   T2.o.set 0 (.iface 133 (.pointer (some ⟨rb,0,none⟩))) (by simp))
  have c1:=T3.o.has.cell w.heap.size _ _ (mcm _ mcs) 1 _ rfl;clear i2 t2 c0 c0' c2;rcases HTt.o with rfl | rfl | rfl
  ·have T4:=hhh (T3.o.aP w2.heap.size (by rw [Own.aY]) 145 [.slice none 0 0,.bool false])
   have g1:=T4.o.has.cell w1.heap.size _ _ (mcm _ mcs) 1 _ rfl;have f1:=T4.o.has.free w1.heap.size _ _ (mcm _ mcs) 1;have T5:=hhh (show Own.aA [] (Own.row w2.heap.size 145 [.slice none 0 0,.bool false] :: (Own.row w1.heap.size 126 [.iface 133 (.pointer (some ⟨rb,0,none⟩)),.iface 142 (.pointer (some ⟨w2.heap.size,0,none⟩)),.pointer none,.bool false,.int .i64 0] :: (Own.row w.heap.size 28 [.int .i64 2,.int .i64 1,.int .i64 d,.int .i64 g,.int .i64 l] :: hr'))) w _ from Own.aA.setAt [_] T4.o 1 (.iface 142 (.pointer (some ⟨w2.heap.size,0,none⟩))) (by simp));go_wp2_with (fail);go_ret;exact Fin.out w1.heap.size rb w2.heap.size hr' (.pointer none) [] 142 _ _ I2.o (show (Writer.new 1).Is w2.heap.size [Own.row w2.heap.size 145 [.slice none 0 0,.bool false]] from Json.Wr.Is.zero _) rfl (HolN.o (by decide)) (T5.o.perm (.refl _) (Own.aE _ _ fun x=>by simp only [List.count_append,List.count_cons,List.count_nil];omega))
  ·have T4:=hhh (T3.o.aP w2.heap.size (by rw [Own.aY]) 149 [.slice none 0 0,.bool false])
   have g1:=T4.o.has.cell w1.heap.size _ _ (mcm _ mcs) 1 _ rfl;have f1:=T4.o.has.free w1.heap.size _ _ (mcm _ mcs) 1;have T5:=hhh (show Own.aA [] (Own.row w2.heap.size 149 [.slice none 0 0,.bool false] :: (Own.row w1.heap.size 126 [.iface 133 (.pointer (some ⟨rb,0,none⟩)),.iface 146 (.pointer (some ⟨w2.heap.size,0,none⟩)),.pointer none,.bool false,.int .i64 0] :: (Own.row w.heap.size 28 [.int .i64 2,.int .i64 2,.int .i64 d,.int .i64 g,.int .i64 l] :: hr'))) w _ from Own.aA.setAt [_] T4.o 1 (.iface 146 (.pointer (some ⟨w2.heap.size,0,none⟩))) (by simp));go_wp2_with (fail);go_ret;exact Fin.out w1.heap.size rb w2.heap.size hr' (.pointer none) [] 146 _ _ I2.o (show (Writer.new 2).Is w2.heap.size [Own.row w2.heap.size 149 [.slice none 0 0,.bool false]] from Cb.Is.zero _) rfl (HolN.o (by decide)) (T5.o.perm (.refl _) (Own.aE _ _ fun x=>by simp only [List.count_append,List.count_cons,List.count_nil];omega))
  ·have T4:=hhh (T3.o.aP w2.heap.size (by rw [Own.aY]) 153 [.slice none 0 0,.bool false])
   have g1:=T4.o.has.cell w1.heap.size _ _ (mcm _ mcs) 1 _ rfl;have f1:=T4.o.has.free w1.heap.size _ _ (mcm _ mcs) 1;have c3:=T4.o.has.cell w.heap.size _ _ (mcm _ (mcm _ mcs)) 3 _ rfl;go_wp2_with (fail);refine (HS.o _).mono ?_;rintro e w5 ⟨sb,hh,rfl,i5,t5⟩;have I5:=hhh i5
   have T5:=hhh (show Own.aA [] (Own.row w1.heap.size 126 [.iface 133 (.pointer (some ⟨rb,0,none⟩)),.nilIface,.pointer none,.bool false,.int .i64 0] :: (Own.row w2.heap.size 153 [.slice none 0 0,.bool false] :: (Own.row w.heap.size 28 [.int .i64 2,.int .i64 3,.int .i64 d,.int .i64 g,.int .i64 l] :: (hr' ++ hh)))) w w5 from
    (T4.o.trans (t5.frame T4.o.has)).perm (.refl _) (Own.aE _ _ fun x=>by simp only [List.count_append,List.count_cons];omega))
   have h1:=T5.o.has.cell w1.heap.size _ _ mcs 1 _ rfl;have k1:=T5.o.has.free w1.heap.size _ _ mcs 1;have T6:=hhh (show Own.aA [] (Own.row w1.heap.size 126 [.iface 133 (.pointer (some ⟨rb,0,none⟩)),.iface 150 (.pointer (some ⟨w2.heap.size,0,none⟩)),.pointer none,.bool false,.int .i64 0] :: (Own.row w2.heap.size 153 [.slice none 0 0,.bool false] :: (Own.row w.heap.size 28 [.int .i64 2,.int .i64 3,.int .i64 d,.int .i64 g,.int .i64 l] :: (hr' ++ hh)))) w _ from T5.o.set 1 (.iface 150 (.pointer (some ⟨w2.heap.size,0,none⟩))) (by simp));have h2:=T6.o.has.cell w1.heap.size _ _ mcs 2 _ rfl;have k2:=T6.o.has.free w1.heap.size _ _ mcs 2;have T7:=hhh (show Own.aA [] (Own.row w1.heap.size 126 [.iface 133 (.pointer (some ⟨rb,0,none⟩)),.iface 150 (.pointer (some ⟨w2.heap.size,0,none⟩)),.pointer (some ⟨sb,0,none⟩),.bool false,.int .i64 0] :: (Own.row w2.heap.size 153 [.slice none 0 0,.bool false] :: (Own.row w.heap.size 28 [.int .i64 2,.int .i64 3,.int .i64 d,.int .i64 g,.int .i64 l] :: (hr' ++ hh)))) w _ from T6.o.set 2 (.pointer (some ⟨sb,0,none⟩)) (by simp));clear i5 t5 c3 g1 f1;go_wp2_with (fail);go_ret;exact Fin.out w1.heap.size rb w2.heap.size hr' (.pointer (some ⟨sb,0,none⟩)) hh 150 _ _ I2.o (show (Writer.new 3).Is w2.heap.size [Own.row w2.heap.size 153 [.slice none 0 0,.bool false]] from Pk.Is.zero _) rfl (HolS.o (by first | rfl | trivial) sb hh I5.o) (T7.o.perm (.refl _) (Own.aE _ _ fun x=>by simp only [List.count_append,List.count_cons,List.count_nil];omega))
 ·have HTt:=hhh ht
  clear ht;go_enter func73,ntmps73;go_wp2_with (fail);refine (HR.o _).mono ?_;rintro e w1 ⟨rfl,b1⟩;have T1:=hhh (((T0.o.trans (Own.aA.aJ T0.o.has b1)).aP w1.heap.size rfl 126 [.nilIface,.nilIface,.pointer none,.bool false,.int .i64 0]));have c0:=T1.o.has.cell w.heap.size _ _ (mcm _ mcs) 0 _ rfl;have c0':=(T0.o.trans (Own.aA.aJ T0.o.has b1)).has.cell w.heap.size _ _ mcs 0 _ rfl;have c2:=T1.o.has.cell w.heap.size _ _ (mcm _ mcs) 2 _ rfl;go_wp2_with (fail);refine (HRd.o _).mono ?_;rintro e w2 ⟨rb,hr',rfl,i2,t2⟩;have I2:=hhh i2;have T2:=hhh (show Own.aA [] (Own.row w1.heap.size 126 [.nilIface,.nilIface,.pointer none,.bool false,.int .i64 0] :: (Own.row w.heap.size 28 [.int .i64 3,.int .i64 t,.int .i64 d,.int .i64 g,.int .i64 l] :: hr')) w w2 from (T1.o.trans (t2.frame T1.o.has)).perm (.refl _) List.perm_append_comm);have g0:=T2.o.has.cell w1.heap.size _ _ mcs 0 _ rfl;have f0:=T2.o.has.free w1.heap.size _ _ mcs 0
  have T3:=hhh (show Own.aA [] (Own.row w1.heap.size 126 [.iface 135 (.pointer (some ⟨rb,0,none⟩)),.nilIface,.pointer none,.bool false,.int .i64 0] :: (Own.row w.heap.size 28 [.int .i64 3,.int .i64 t,.int .i64 d,.int .i64 g,.int .i64 l] :: hr')) w (w2.setCell ⟨w1.heap.size,0,none⟩ (.iface 135 (.pointer (some ⟨rb,0,none⟩)))) from
   T2.o.set 0 (.iface 135 (.pointer (some ⟨rb,0,none⟩))) (by simp))
  have c1:=T3.o.has.cell w.heap.size _ _ (mcm _ mcs) 1 _ rfl;clear i2 t2 c0 c0' c2;rcases HTt.o with rfl | rfl | rfl
  ·have T4:=hhh (T3.o.aP w2.heap.size (by rw [Own.aY]) 145 [.slice none 0 0,.bool false])
   have g1:=T4.o.has.cell w1.heap.size _ _ (mcm _ mcs) 1 _ rfl;have f1:=T4.o.has.free w1.heap.size _ _ (mcm _ mcs) 1;have T5:=hhh (show Own.aA [] (Own.row w2.heap.size 145 [.slice none 0 0,.bool false] :: (Own.row w1.heap.size 126 [.iface 135 (.pointer (some ⟨rb,0,none⟩)),.iface 142 (.pointer (some ⟨w2.heap.size,0,none⟩)),.pointer none,.bool false,.int .i64 0] :: (Own.row w.heap.size 28 [.int .i64 3,.int .i64 1,.int .i64 d,.int .i64 g,.int .i64 l] :: hr'))) w _ from Own.aA.setAt [_] T4.o 1 (.iface 142 (.pointer (some ⟨w2.heap.size,0,none⟩))) (by simp));go_wp2_with (fail);go_ret;exact Fin.out w1.heap.size rb w2.heap.size hr' (.pointer none) [] 142 _ _ I2.o (show (Writer.new 1).Is w2.heap.size [Own.row w2.heap.size 145 [.slice none 0 0,.bool false]] from Json.Wr.Is.zero _) rfl (HolN.o (by decide)) (T5.o.perm (.refl _) (Own.aE _ _ fun x=>by simp only [List.count_append,List.count_cons,List.count_nil];omega))
  ·have T4:=hhh (T3.o.aP w2.heap.size (by rw [Own.aY]) 149 [.slice none 0 0,.bool false])
   have g1:=T4.o.has.cell w1.heap.size _ _ (mcm _ mcs) 1 _ rfl;have f1:=T4.o.has.free w1.heap.size _ _ (mcm _ mcs) 1;have T5:=hhh (show Own.aA [] (Own.row w2.heap.size 149 [.slice none 0 0,.bool false] :: (Own.row w1.heap.size 126 [.iface 135 (.pointer (some ⟨rb,0,none⟩)),.iface 146 (.pointer (some ⟨w2.heap.size,0,none⟩)),.pointer none,.bool false,.int .i64 0] :: (Own.row w.heap.size 28 [.int .i64 3,.int .i64 2,.int .i64 d,.int .i64 g,.int .i64 l] :: hr'))) w _ from Own.aA.setAt [_] T4.o 1 (.iface 146 (.pointer (some ⟨w2.heap.size,0,none⟩))) (by simp));go_wp2_with (fail);go_ret;exact Fin.out w1.heap.size rb w2.heap.size hr' (.pointer none) [] 146 _ _ I2.o (show (Writer.new 2).Is w2.heap.size [Own.row w2.heap.size 149 [.slice none 0 0,.bool false]] from Cb.Is.zero _) rfl (HolN.o (by decide)) (T5.o.perm (.refl _) (Own.aE _ _ fun x=>by simp only [List.count_append,List.count_cons,List.count_nil];omega))
  ·have T4:=hhh (T3.o.aP w2.heap.size (by rw [Own.aY]) 153 [.slice none 0 0,.bool false])
   have g1:=T4.o.has.cell w1.heap.size _ _ (mcm _ mcs) 1 _ rfl;have f1:=T4.o.has.free w1.heap.size _ _ (mcm _ mcs) 1;have c3:=T4.o.has.cell w.heap.size _ _ (mcm _ (mcm _ mcs)) 3 _ rfl;go_wp2_with (fail);refine (HS.o _).mono ?_;rintro e w5 ⟨sb,hh,rfl,i5,t5⟩;have I5:=hhh i5
   have T5:=hhh (show Own.aA [] (Own.row w1.heap.size 126 [.iface 135 (.pointer (some ⟨rb,0,none⟩)),.nilIface,.pointer none,.bool false,.int .i64 0] :: (Own.row w2.heap.size 153 [.slice none 0 0,.bool false] :: (Own.row w.heap.size 28 [.int .i64 3,.int .i64 3,.int .i64 d,.int .i64 g,.int .i64 l] :: (hr' ++ hh)))) w w5 from
    (T4.o.trans (t5.frame T4.o.has)).perm (.refl _) (Own.aE _ _ fun x=>by simp only [List.count_append,List.count_cons];omega))
   have h1:=T5.o.has.cell w1.heap.size _ _ mcs 1 _ rfl;have k1:=T5.o.has.free w1.heap.size _ _ mcs 1;have T6:=hhh (show Own.aA [] (Own.row w1.heap.size 126 [.iface 135 (.pointer (some ⟨rb,0,none⟩)),.iface 150 (.pointer (some ⟨w2.heap.size,0,none⟩)),.pointer none,.bool false,.int .i64 0] :: (Own.row w2.heap.size 153 [.slice none 0 0,.bool false] :: (Own.row w.heap.size 28 [.int .i64 3,.int .i64 3,.int .i64 d,.int .i64 g,.int .i64 l] :: (hr' ++ hh)))) w _ from T5.o.set 1 (.iface 150 (.pointer (some ⟨w2.heap.size,0,none⟩))) (by simp));have h2:=T6.o.has.cell w1.heap.size _ _ mcs 2 _ rfl;have k2:=T6.o.has.free w1.heap.size _ _ mcs 2;have T7:=hhh (show Own.aA [] (Own.row w1.heap.size 126 [.iface 135 (.pointer (some ⟨rb,0,none⟩)),.iface 150 (.pointer (some ⟨w2.heap.size,0,none⟩)),.pointer (some ⟨sb,0,none⟩),.bool false,.int .i64 0] :: (Own.row w2.heap.size 153 [.slice none 0 0,.bool false] :: (Own.row w.heap.size 28 [.int .i64 3,.int .i64 3,.int .i64 d,.int .i64 g,.int .i64 l] :: (hr' ++ hh)))) w _ from T6.o.set 2 (.pointer (some ⟨sb,0,none⟩)) (by simp));clear i5 t5 c3 g1 f1;go_wp2_with (fail);go_ret;exact Fin.out w1.heap.size rb w2.heap.size hr' (.pointer (some ⟨sb,0,none⟩)) hh 150 _ _ I2.o (show (Writer.new 3).Is w2.heap.size [Own.row w2.heap.size 153 [.slice none 0 0,.bool false]] from Pk.Is.zero _) rfl (HolS.o (by first | rfl | trivial) sb hh I5.o) (T7.o.perm (.refl _) (Own.aE _ _ fun x=>by simp only [List.count_append,List.count_cons,List.count_nil];omega))
end Pip
end
section
open Go.RowKit
open Json (Part Wr)
namespace Pip
theorem Pp.xK (text:Part -> List UInt8) (p:Pp) (l:List UInt8) (x:UInt8):p.all text (l ++ [x])=(((p.all text l).1.step text x).1,(p.all text l).2 ++ ((p.all text l).1.step text x).2.1):=by
 rw [Pp.all_append];simp [Pp.all]
theorem Pp.Fits.all (text:Part -> List UInt8):∀ (l:List UInt8) {p:Pp} {n:Nat},p.Fits n -> (p.all text l).1.Fits (n + 19 * l.length)
 | [],p,n,h=>h
 | x :: l,p,n,h=>(Pp.Fits.all text l (h.step text x)).mono (by simp only [List.length_cons];omega)
theorem Pp.pO (text:Part -> List UInt8):∀ (l:List Part) (p:Pp) (e:Nat),(p.write text l e).1.output.kind=p.output.kind
 | [],_,_=>rfl
 | v :: l,p,e=>by
  unfold Pp.write
  split
  ·exact Pp.mB text p v
  ·exact (Pp.pO text l _ e).trans (Pp.mB text p v)
theorem Pp.tK (text:Part -> List UInt8) (p:Pp) (x:UInt8):(p.step text x).1.output.kind=p.output.kind:=by
 unfold Pp.step;split
 ·rfl
 ·exact Pp.pO text _ _ _
theorem Pp.nU (text:Part -> List UInt8):∀ (l:List Part) (p:Pp) (e:Nat),(p.write text l e).1.input=p.input
 | l,p,e=>(Pp.lO text l p e).2
theorem Pp.wS (text:Part -> List UInt8):∀ (l:List UInt8) (p:Pp),(p.all text l).1.output.kind=p.output.kind
 | [],_=>rfl
 | x :: l,p=>(Pp.wS text l _).trans (Pp.tK text p x)
structure Pp.Told (ok:Part -> Prop) (text:Part -> List UInt8) (p:Pp) (b:List UInt8):Prop where
 step:∀ j,j < b.length -> (p.all text (b.take j)).1.may=0 -> ∀ v ∈ ((p.all text (b.take j)).1.input.step (b.getD j 0)).2.1,ok v
 fin:(p.all text b).1.may=0 -> ∀ v ∈ (p.all text b).1.input.fin.2.1,ok v
section
variable {k M B:Nat} {ok:Part -> Prop} {text:Part -> List UInt8} {Tb:World -> Prop}
theorem Wok.nR (H:Wok k M ok text B Tb) (e:Nat):∀ (l:List Part) {p:Pp} {n:Nat},p.Fits n -> p.output.kind=k -> (∀ v ∈ l,Fine v /\ ok v) -> (p.write text l e).2.1.length + M * (p.write text l e).1.bM <= M * (p.bM + l.length)
 | [],p,n,_,_,_=>by simp [Pp.write,Pp.bM]
 | v :: l,p,n,hf,hk,hl=>by
  have hv:=hl v mcs
  have h1:=H.aCz hf hk v hv
  have h2:=Wok.nR H e l (hf.one text v hv.1) ((Pp.mB text p v).trans hk) fun q hq=>hl q (mcm _ hq)
  rw [Nat.mul_add] at h1 h2
  unfold Pp.write
  split
  ·simp only [List.length_cons];rw [Nat.mul_add,Nat.mul_succ];omega
  ·simp only [lla,List.length_cons]
   rw [Nat.mul_add,Nat.mul_succ]
   omega
theorem Wok.eH (H:Wok k M ok text B Tb) {p:Pp} {n:Nat} (hf:p.Fits n) (hk:p.output.kind=k) (x:UInt8) (hok:p.may=0 -> ∀ v ∈ (p.input.step x).2.1,ok v):(p.step text x).2.1.length + M * (p.step text x).1.bM <= M * (p.bM + 18):=by
 unfold Pp.step;split
 ·simp only [List.length_nil,Nat.zero_add];exact Nat.mul_le_mul_left _ (by omega)
 ·rename_i hm
  have g:=Reader.eU hf.input x;have h:=H.nR (p.input.step x).2.2 (p.input.step x).2.1 (hf.on (Nat.le_succ n) g.fits p.over) hk fun v hv=>⟨g.fine v hv,hok (by simpa using hm) v hv⟩
  refine Nat.le_trans h (Nat.mul_le_mul_left _ ?_);have:=g.few;show p.bM + _ <= _;omega
theorem Wok.fF (H:Wok k M ok text B Tb) {p:Pp} {n:Nat} (hf:p.Fits n) (hk:p.output.kind=k) (hok:p.may=0 -> ∀ v ∈ p.input.fin.2.1,ok v):(p.fin text).2.1.length <= M * (p.bM + 18):=by
 unfold Pp.fin;split
 ·simp
 ·rename_i hm
  have g:=Reader.qJ hf.input;have h:=H.nR p.input.fin.2.2 p.input.fin.2.1 (hf.on (Nat.le_refl n) g.fits true) hk fun v hv=>⟨g.fine v hv,hok (by simpa using hm) v hv⟩
  have h2:M * ((Pp.mk p.input.fin.1 p.output p.hold true p.e).bM + p.input.fin.2.1.length) <= M * (p.bM + 18):=Nat.mul_le_mul_left _ (by
   have:=g.few;show p.bM + _ <= _
   omega)
  omega
theorem Wok.jD (H : Wok k M ok text B Tb) : ∀ (b : List UInt8) {p : Pp} {n : Nat}, p.Fits n → p.output.kind = k → (∀ j, j < b.length → (p.all text (b.take j)).1.may = 0 → ∀ v ∈ ((p.all text (b.take j)).1.input.step (b.getD j 0)).2.1, ok v) →
  (p.all text b).2.length + M * (p.all text b).1.bM <= M * (p.bM + 18 * b.length)
 | [],p,n,_,_,_=>by simp [Pp.all]
 | x :: b,p,n,hf,hk,ht=>by
  have h0:=ht 0 (by simp)
  simp only [List.take_zero,Pp.all,List.getD_cons_zero] at h0
  have h1:=H.eH hf hk x h0
  have h2:=Wok.jD H b (hf.step text x) ((Pp.tK text p x).trans hk) (fun j hj=>by
   have:=ht (j + 1) (by simpa using hj)
   simpa [Pp.all] using this)
  rw [Nat.mul_add] at h1 h2
  simp only [Pp.all,lla,List.length_cons]
  rw [Nat.mul_add,show 18 * (b.length + 1)=18 * b.length + 18 by omega,Nat.mul_add]
  omega
end
end Pip
end
section
open Go.RowKit
open Json (Part Wr)
namespace Pip
section
variable {k M B:Nat} {ok:Part -> Prop} {text:Part -> List UInt8} {Tb:World -> Prop}
end
end Pip
end
section
open Go.RowKit
open Json (Part Wr)
namespace Pip
theorem oV (m v:Nat):(put m v).length <= 9:=by
 unfold put
 repeat' split
 all_goals simp [aS]
theorem sG (p:Part) (hp:Fine p):(cborPlain p).length <= 209:=by
 cases p with
 | bool b=>cases b <;> simp [cborPlain]
 | whole n m=>cases n <;> (simp only [cborPlain];exact Nat.le_trans (oV _ _) (by decide))
 | word s =>
  have h1:=hp.text s (.inl rfl);have h2:=oV 3 s.size;have h3:(bytesOf s).length=s.size:=rfl;simp only [cborPlain,lla];omega
 | cW s =>
  have h1:=hp.text s (.inr rfl);have h2:=oV 2 s.size;have h3:(bytesOf s).length=s.size:=rfl;simp only [cborPlain,lla];omega
 | _=>simp [cborPlain]
theorem aGd (W:Cw) (p:Part) (hp:Fine p):(W.bB p).1.length <= 300:=by
 have hpl:=sG p hp;unfold Cw.bB;split
 ·simp
 ·cases p with
  | close =>
   dsimp only
   unfold Cw.cD;split
   ·simp
   ·split
    ·simp
    ·split <;> simp
  | aG m c =>
   dsimp only
   split
   ·simp
   ·unfold Cw.aIo
    dsimp only
    split
    ·simp
    ·exact Nat.le_trans (oV _ _) (by decide)
  | _ =>
   dsimp only
   split
   ·simp
   ·exact Nat.le_trans hpl (by decide)
theorem wI (text:Part -> List UInt8):Wok 2 300 (fun _=>True) text 0 (fun _=>True) where
 step W hk wb n h w hi hw hf hn _ _ p hp _:=by
  cases W with
  | json W=>cases hk
  | pack W=>cases hk
  | bB W=>exact Cb.dN hi hw hf hn p hp
 len W hk p hp _:=by
  cases W with
  | json W=>cases hk
  | pack W=>cases hk
  | bB W=>exact aGd W p hp
 of _ _ _ _:=trivial
 stage h:=by cases h
 room:=by decide
theorem gS (text:Part -> List UInt8):yB 2 300 (fun _=>True) text 0 (fun _=>True) where
 wok:=wI text
 write hi hf hn hk he l hl hfine hs hw hB hBw hT:=aCa (wI text) hi hf hn hk he l hl hfine hs hw hB hBw hT
end Pip
end
section
open Go.RowKit
open Json (Part Wr)
namespace Pip
theorem aAi {M B : Nat} {ok : Part → Prop} {text : Part → List UInt8} {Tb : World → Prop} (H : Wok 1 M ok text B Tb) {p : Pp} {b n e : Nat} {h hl : Own.Heap} {w : World} {v : Value}
  (hi:p.Is b h) (hf:p.Fits n) (hn:n <= 90000) (hk:p.output.kind=1) (he:p.e=0) (l:List Part) (hl18:l.length <= 18) (hfine:∀ v ∈ l,Fine v /\ ok v)
  (hs:Own.Slc 20 (aF l) v hl) (hw:Own.Has w (hl ++ h)) (hB:∀ x ∈ Own.blocks (hl ++ h),B <= x) (hBw:B <= w.heap.size) (hT:Tb w) :
  Calls prog 86 #[.pointer (some ⟨b,0,none⟩),v,.int .i64 (e:Int)] w (iM (p.write text l e) b (hl ++ h) w):=by
 obtain ⟨rb,wb,hv,hr,hw0,hh,rfl,iR,iW,iH⟩:=hi;obtain ⟨R,W,Ho,ov,pe⟩:=p;have hko:=hf.kind;simp only at hk he hko iR iW iH;subst he;rw [hk] at hko;obtain rfl:Ho=none:=by cases Ho with
  | none=>rfl
  | some s=>cases hko
 obtain ⟨rfl,rfl⟩:=iH
 cases W with
 | bB W=>cases hk
 | pack W=>cases hk
 | json W =>
 obtain ⟨a,c,rfl⟩:=hs.len;have hcl:(aF l).length=l.length:=List.length_map ..;rw [hcl] at hs |-;obtain ⟨RT,hRT⟩:∃ RT,RT=R.ty:=⟨_,rfl⟩;have hce:∀ (W:Wr) (e:Nat),(Pp.mk R (.json W) none ov e).cells rb wb (.pointer none)=flat RT 142 rb wb (.pointer none) ov e:=fun W e=>by unfold Pp.cells flat;rw [hRT];rfl
 rw [hce] at hw hB |-;obtain ⟨p,hp⟩:∃ p,p=Pp.mk R (.json W) none ov 0:=⟨_,rfl⟩;have p0:p.e=0:=by rw [hp]
 rw [<- hp] at hf |-;have HP:=hhh hp
 have HIs:=hhh (fun (W:Wr) (e:Nat) (hj:Own.Heap) (i:W.Is wb hj)=>(show (Pp.mk R (.json W) none ov e).Is b (Own.row b 126 (flat RT 142 rb wb (.pointer none) ov e) :: (hr ++ (hj ++ []))) from
  ⟨rb,wb,.pointer none,hr,hj,[],by rw [hce],iR,i,rfl,rfl⟩))
 have HW:=hhh hw;have HS:=hhh hs;have HFt:=hhh hf;have HFine:=hhh hfine;have HH:=hhh H;have HHB:=hhh hB;have HT:=hhh hT;have HIW:=hhh iW;have hTA:=aI9;have HHl:=hhh (show p.bM=0 by rw [hp];rfl);have HStop:=hhh (fun j hj hz h=>Pp.lH text p l e j hj hz h);have HEnd:=hhh (fun hz=>Pp.mY text p l e hz);have HAe:=hhh (fun j hz=>Pp.aCx text p p0 l j hz);have HLen:=hhh (H.dE l hf (by rw [hp];rfl) hfine);have HLens:=hhh (fun j=>H.dE (l.take j) hf (by rw [hp];rfl) fun v hv=>hfine v (List.mem_of_mem_take hv));have HFits:=hhh (fun j=>Pp.Fits.ahead text (l.take j) hf fun v hv=>(hfine v (List.mem_of_mem_take hv)).1);generalize p.write text l e=PW at HStop HEnd |-;obtain ⟨N,hN⟩:∃ N,N=l.length:=⟨_,rfl⟩;rw [<- hN] at hl18 HS |-;have HN:=hhh hN;have c1:=hw.right.cell b _ _ mcs 1 _ rfl;have c1':=fun o=>(Own.aA.aD (Own.aA.refl hw) o).has.right.cell b _ _ mcs 1 _ rfl
 have HStr:=hhh (fun (u:World) (L:List UInt8) (pp sv:Value) (hb h3:Own.Heap) (e3:Nat) (B:Own.Buf 5 L sv hb) (t:Own.aA (hl ++ Own.row b 126 (flat RT 142 rb wb (.pointer none) ov 0) :: (hr ++ (hw0 ++ []))) (Own.row b 126 (flat RT 142 rb wb (.pointer none) ov e3) :: (Own.row w.heap.size 115 [pp,sv] :: (hb ++ (hl ++ (hr ++ (h3 ++ [])))))) w u) =>
  (show Calls prog 81 #[.pointer (some ⟨w.heap.size,0,none⟩)] u fun e w'=>e = .returned (.string ⟨L.toArray⟩) /\ ∃ hb',Own.aA (hl ++ Own.row b 126 (flat RT 142 rb wb (.pointer none) ov 0) :: (hr ++ (hw0 ++ []))) (Own.row b 126 (flat RT 142 rb wb (.pointer none) ov e3) :: (Own.row w.heap.size 115 [pp,sv] :: (hb' ++ (hl ++ (hr ++ (h3 ++ [])))))) w w' from by
   refine (Bld.lE (b:=w.heap.size) (p:=pp) B (t.has.right (a:=[_])).left).mono ?_;rintro e w' ⟨rfl,hb',hB',t'⟩
   exact ⟨rfl,hb',t.trans (Own.aA.focus t.has (Own.aE _ ((Own.row w.heap.size 115 [pp,sv] :: hb) ++ (Own.row b 126 (flat RT 142 rb wb (.pointer none) ov e3) :: (hl ++ (hr ++ (h3 ++ []))))) fun x=>by simp only [List.count_append,List.count_cons,List.count_nil];omega) (fun _=>t') (Own.aE _ _ fun x=>by simp only [List.count_append,List.count_cons,List.count_nil];omega))⟩))
 have HFin:=hhh (fun (u:World) (pp sv:Value) (hb h3:Own.Heap) (e3:Nat) (t:Own.aA (hl ++ Own.row b 126 (flat RT 142 rb wb (.pointer none) ov 0) :: (hr ++ (hw0 ++ []))) (Own.row b 126 (flat RT 142 rb wb (.pointer none) ov e3) :: (Own.row w.heap.size 115 [pp,sv] :: (hb ++ (hl ++ (hr ++ (h3 ++ [])))))) w u) =>
  (show Own.aA (hl ++ Own.row b 126 (flat RT 142 rb wb (.pointer none) ov 0) :: (hr ++ (hw0 ++ []))) (Own.row b 126 (flat RT 142 rb wb (.pointer none) ov e3) :: (hr ++ (h3 ++ []))) w u from (t.perm (.refl _) (Own.aE _ ((Own.row w.heap.size 115 [pp,sv] :: (hb ++ hl)) ++ (Own.row b 126 (flat RT 142 rb wb (.pointer none) ov e3) :: (hr ++ (h3 ++ [])))) fun x=>by simp only [List.count_append,List.count_cons,List.count_nil];omega)).forget))
 have T0:=hhh (((Own.aA.refl hw).aP w.heap.size rfl 115 [.pointer none,.slice none 0 0]).perm (.refl _)
  (Own.aE _ (Own.row b 126 (flat RT 142 rb wb (.pointer none) ov 0) :: (Own.row w.heap.size 115 [.pointer none,.slice none 0 0] :: ([] ++ (hl ++ (hr ++ (hw0 ++ [])))))) fun x=>by simp only [List.count_append,List.count_cons,List.count_nil];omega))
 clear hs hw hf hfine H hB hT hN hp p0 iW hcl hce hRT;go_enter func86,ntmps86;go_wp2_with (fail)
 go_loopw [27] (fun i wr => ∃ (j : Nat) (pp sv : Value) (hb hj : Own.Heap) (Wj : Wr), i = .int .i64 j ∧ j ≤ N ∧ Hid (∀ k, k < j → (p.ahead text (l.take (k + 1))).1.e = 0) ∧ Hid ((p.ahead text (l.take j)).1 = Pp.mk R (.json Wj) none ov 0) ∧
   (pp = .pointer none \/ pp = .pointer (some ⟨w.heap.size,0,none⟩)) /\ Own.Buf 5 (p.ahead text (l.take j)).2 sv hb /\ Wj.Is wb hj /\
   Own.aA (hl ++ Own.row b 126 (flat RT 142 rb wb (.pointer none) ov 0) :: (hr ++ (hw0 ++ []))) (Own.row b 126 (flat RT 142 rb wb (.pointer none) ov 0) :: (Own.row w.heap.size 115 [pp,sv] :: (hb ++ (hl ++ (hr ++ (hj ++ [])))))) w wr) (fun i _=>N - (intOf i).toNat)
 case atStart=>exact ⟨0,_,_,[],hw0,W,rfl,Nat.zero_le _,hhh fun k hk=>absurd hk (Nat.not_lt_zero _),hhh HP.o,.inl rfl,.none rfl,HIW.o,T0.o⟩
 case round =>
  obtain ⟨j,pp,sv,hb,hj,Wj,rfl,hjN,hz,hPj,hpp,hbuf,hij,ht⟩:=hrel;have HBuf:=hhh hbuf;have HIj:=hhh hij;have T:=hhh ht;have HPP:=hhh hpp;clear hbuf hij ht hpp c1 c1' T0 HIW;by_cases hlt:j < N
  ·have hjl:j < l.length:=by have:=HN.o;omega
   have hltI:(j:Int) < (N:Int):=by omega
   obtain ⟨tb,off,c2,e1,hcell⟩:=HS.o.rF (by rw [aI];omega);injection e1 with e1a e1b e1c
   subst e1a;clear e1b e1c;have k0:=hcell wr (T.o.has.right (a:=[_,_])).right.left j l[j].val (by unfold aF;rw [List.getElem?_map,List.getElem?_eq_getElem hjl];rfl);clear hcell;have hq:=hhh (HFine.o _ (List.getElem_mem hjl));have hfj:=hhh (show (Writer.json Wj).Fits 100000 from (show (Pp.mk R (.json Wj) none ov 0).Fits _ by rw [<- hPj.out];exact HFits.o j).out.mono (by rw [List.length_take];omega));have hBj:=hhh (T.o.least HHB.o hBw);have hTj:=hhh (fun u (k:Below B w u)=>HH.o.of _ _ HT.o k);have hbl:=hhh (fun o=>(T.o.aD o).below HHB.o hBw);have hlen:=hhh (HLens.o j)
   have hsn:=hhh (show p.ahead text (l.take (j + 1))=(((p.ahead text (l.take j)).1.one text l[j]).1,(p.ahead text (l.take j)).2 ++ ((p.ahead text (l.take j)).1.one text l[j]).2) by
    rw [show l.take (j + 1)=l.take j ++ [l[j]] from List.take_succ_eq_append_getElem hjl,Pp.fM])
   generalize l[j]=q at k0 hq hsn
   have HC:=hhh (fun o=>(show Calls prog 210 #[.pointer (some ⟨wb,0,none⟩),q.val] (wr.alloc o) fun e w'=>e = .returned (.tuple #[.string ⟨(Wj.step text q).1.toArray⟩,.int .i64 ((Wj.step text q).2.1:Int)]) /\ ∃ h',(Wj.step text q).2.2.Is wb h' /\ Own.aA hj h' (wr.alloc o) w' from by
    have h1:=HH.o.step (.json Wj) rfl wb 100000 hj (wr.alloc o) HIj.o ((T.o.aD o).has.right (a:=[_,_])).right.right.right.left hfj.o (Nat.le_refl _) (fun x hx=>hBj.o x (by
     simp only [Own.blocks,List.map_cons,List.map_append,List.mem_cons,List.mem_append] at hx |-
     exact .inr (.inr (.inr (.inr (.inr (.inl hx))))))) (hTj.o _ (hbl.o o)) q hq.o.1 hq.o.2
    exact h1))
   have hone:(p.ahead text (l.take (j + 1)))=(Pp.mk R (.json (Wj.step text q).2.2) none ov (Wj.step text q).2.1,(p.ahead text (l.take j)).2 ++ (Wj.step text q).1):=by
    rw [hsn.o,hPj.out];simp only [Pp.one,Writer.wE];rfl
   have hln:(Wj.step text q).1.length <= M:=HH.o.len (.json Wj) rfl q hq.o.1 hq.o.2;have Hone:=hhh hone;have Hln:=hhh hln;clear hone hln hsn;generalize Wj.step text q=R2 at HC Hone Hln;obtain ⟨s2,e2,W2⟩:=R2;simp only at HC Hone Hln;have c4:=fun o=>(T.o.aD o).has.cell b _ _ mcs 4 _ rfl
   have c2:=fun o=>(T.o.aD o).has.cell b _ _ mcs 2 _ rfl
   obtain ⟨V,hV⟩:∃ V,V=q.val:=⟨_,rfl⟩;rw [<- hV] at k0 HC;have hY:=eR q;rw [<- hV] at hY;clear hV hq
   have HO:=hhh (fun (u:World) (h3:Own.Heap) (e3:Nat) (t:Own.aA (hl ++ Own.row b 126 (flat RT 142 rb wb (.pointer none) ov 0) :: (hr ++ (hw0 ++ []))) (Own.row b 126 (flat RT 142 rb wb (.pointer none) ov 0) :: (Own.row w.heap.size 115 [pp,sv] :: (hb ++ (hl ++ (hr ++ (h3 ++ [])))))) w u) =>
    (show Own.aA (hl ++ Own.row b 126 (flat RT 142 rb wb (.pointer none) ov 0) :: (hr ++ (hw0 ++ []))) (Own.row b 126 (flat RT 142 rb wb (.pointer none) ov e3) :: (Own.row w.heap.size 115 [pp,sv] :: (hb ++ (hl ++ (hr ++ (h3 ++ [])))))) w (u.setCell ⟨b,4,none⟩ (.int .i64 (e3:Int))) from t.set 4 (.int .i64 (e3:Int)) (by simp [flat])))
   have HStep:=hhh (fun (o:Obj) (u:World) (h3:Own.Heap) (t:Own.aA hj h3 (wr.alloc o) u)=>(T.o.aD o).trans (Own.aA.focus (T.o.aD o).has (Own.aE _ (hj ++ (Own.row b 126 (flat RT 142 rb wb (.pointer none) ov 0) :: (Own.row w.heap.size 115 [pp,sv] :: (hb ++ (hl ++ (hr ++ [])))))) fun x=>by simp only [List.count_append,List.count_cons,List.count_nil];omega) (fun _=>t)
    (Own.aE (Own.row b 126 (flat RT 142 rb wb (.pointer none) ov 0) :: (Own.row w.heap.size 115 [pp,sv] :: (hb ++ (hl ++ (hr ++ (h3 ++ [])))))) _ fun x=>by simp only [List.count_append,List.count_cons,List.count_nil];omega)))
   have HWs:=hhh (fun (u:World) (h3:Own.Heap) (e3:Nat) (t:Own.aA (hl ++ Own.row b 126 (flat RT 142 rb wb (.pointer none) ov 0) :: (hr ++ (hw0 ++ []))) (Own.row b 126 (flat RT 142 rb wb (.pointer none) ov e3) :: (Own.row w.heap.size 115 [pp,sv] :: (hb ++ (hl ++ (hr ++ (h3 ++ [])))))) w u) =>
    (show Calls prog 80 #[.pointer (some ⟨w.heap.size, 0, none⟩), .string ⟨s2.toArray⟩] u fun e w' => e = .returned (.tuple #[.int .i64 ((⟨s2.toArray⟩ : ByteArray).size : Int), .nilIface]) ∧ ∃ sv' hb', Own.Buf 5 ((p.ahead text (l.take j)).2 ++ s2) sv' hb' ∧
      Own.aA (hl ++ Own.row b 126 (flat RT 142 rb wb (.pointer none) ov 0) :: (hr ++ (hw0 ++ []))) (Own.row b 126 (flat RT 142 rb wb (.pointer none) ov e3) :: (Own.row w.heap.size 115 [.pointer (some ⟨w.heap.size,0,none⟩),sv'] :: (hb' ++ (hl ++ (hr ++ (h3 ++ [])))))) w w' from by
     refine (Bld.aBp (b:=w.heap.size) (p:=pp) ⟨s2.toArray⟩ HBuf.o (t.has.right (a:=[_])).left HPP.o ?_).mono ?_
     ·have h1:=hlen.o
      have h2:=HH.o.room;have h3:=Hln.o;have h4:(⟨s2.toArray⟩:ByteArray).size=s2.length:=aL s2;have h5:M * (p.bM + (l.take j).length) <= M * 18:=Nat.mul_le_mul_left _ (by rw [List.length_take,HHl.o];omega);omega
     ·rintro e w' ⟨rfl,sv',hb',hB',t'⟩
      exact ⟨rfl,sv',hb',hB',t.trans (Own.aA.focus t.has (Own.aE _ ((Own.row w.heap.size 115 [pp,sv] :: hb) ++ (Own.row b 126 (flat RT 142 rb wb (.pointer none) ov e3) :: (hl ++ (hr ++ (h3 ++ []))))) fun x=>by simp only [List.count_append,List.count_cons,List.count_nil];omega) (fun _=>t') (Own.aE _ _ fun x=>by simp only [List.count_append,List.count_cons,List.count_nil];omega))⟩))
   rcases hY with rfl | ⟨VT,VX,rfl⟩
   all_goals
    go_wp2_with (fail);refine wp_loop_rounds 2 ?_;rw [rounds_succ];go_wp2_with (fail);refine (HC.o _).mono ?_;rintro e3 w3 ⟨rfl,h3,i3,t3⟩;have I3:=hhh i3;have T3:=hhh (HStep.o _ _ _ t3);have g4:=T3.o.has.cell b _ _ mcs 4 _ rfl;have gf:=T3.o.has.free b _ _ mcs 4;have T4:=hhh (HO.o _ _ e2 T3.o);have HWc:=hhh (HWs.o _ _ _ T4.o);clear i3 t3 c4 c2;go_wp2_with (fail);refine HWc.o.mono ?_;rintro e4 w4 ⟨rfl,sv5,hb5,B5,t5⟩;have T5:=hhh t5;have HB5:=hhh B5;have d4:=T5.o.has.cell b _ _ mcs 4 _ rfl;clear t5 B5 g4 gf;go_wp2_with (fail);rw [rounds_succ];by_cases h0:e2=0
    ·subst h0
     go_wp2_with (fail);go_roundw
     case rel=>exact ⟨j + 1,_,sv5,hb5,h3,W2,by go_num,by omega,hhh (fun k hk=>by
      by_cases hkj:k < j
      ·exact hz.out k hkj
      ·obtain rfl:k=j:=by omega
       rw [Hone.o]),hhh (by rw [Hone.o]),.inr rfl,by rw [Hone.o];exact HB5.o,I3.o,T5.o⟩
     case measure=>simp [intOf];omega
    ·have h0':((e2:Int) != 0)=true:=by rw [bne_iff_ne];omega
     have HPW:=HStop.o j hjl hz.out (by rw [Hone.o];exact h0);rw [Hone.o] at HPW;have HPw:=hhh HPW;clear h0 HPW;go_wp2_with (fail);go_region_with (go_at_call 81;(first | refine (HStr.o _ _ _ _ _ _ _ HB5.o T5.o.drew).mono ?_ | refine (HStr.o _ _ _ _ _ _ _ HB5.o (T5.o.drewN _)).mono ?_ | refine (HStr.o _ _ _ _ _ _ _ HB5.o T5.o).mono ?_);rintro e6 w6 ⟨rfl,hb6,t6⟩;have T6:=hhh t6;have d6:=T6.o.has.cell b _ _ mcs 4 _ rfl;clear t6)
     all_goals
      go_wp2;go_ret2;rw [HPw.o];exact ⟨_,rfl,HIs.o W2 e2 h3 I3.o,HFin.o _ _ _ _ _ _ T6.o⟩
  ·have hge:(N:Int) <= (j:Int):=by omega
   obtain rfl:j=N:=by omega
   have hE:=HEnd.o (by rw [<- HN.o];exact hz.out);have hta:l.take j=l:=by rw [HN.o];exact List.take_length
   rw [hta] at hPj HBuf;rw [hPj.out] at hE;have HE:=hhh hE;have c4:=T.o.has.cell b _ _ mcs 4 _ rfl;have f4:=T.o.has.free b _ _ mcs 4;have T1:=hhh (show Own.aA (hl ++ Own.row b 126 (flat RT 142 rb wb (.pointer none) ov 0) :: (hr ++ (hw0 ++ []))) (Own.row b 126 (flat RT 142 rb wb (.pointer none) ov e) :: (Own.row w.heap.size 115 [pp,sv] :: (hb ++ (hl ++ (hr ++ (hj ++ [])))))) w (wr.setCell ⟨b,4,none⟩ (.int .i64 (e:Int))) from T.o.set 4 (.int .i64 (e:Int)) (by simp [flat]));have HS1:=hhh (HStr.o _ _ _ _ _ _ _ HBuf.o T1.o);clear hE hta;go_wp2_with (fail);refine HS1.o.mono ?_;rintro e6 w6 ⟨rfl,hb6,t6⟩;have T6:=hhh t6;clear t6;go_wp2;go_ret2;rw [HE.o];exact ⟨_,rfl,HIs.o Wj e hj HIj.o,HFin.o _ _ _ _ _ _ T6.o⟩
end Pip
end
end Go.Proofs.YtcjflgmcjfcodaaGreat
