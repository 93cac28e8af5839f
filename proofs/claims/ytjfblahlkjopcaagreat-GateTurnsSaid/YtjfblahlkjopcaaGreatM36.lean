/- Texts of the walk, joined. -/
import Derived.Test.YtjfblahlkjopcaaGreatM25
import Derived.Test.YtjfblahlkjopcaaGreatM26
import Derived.Test.YtjfblahlkjopcaaGreatM30
import Derived.Test.YtjfblahlkjopcaaGreatM35
import Derived.Deep.RegionLaw
import Derived.Deep.RegionWith
set_option maxRecDepth 100000
set_option maxHeartbeats 8000000
namespace Go.Proofs.YtjfblahlkjopcaaGreat
section
open Go.RowKit
open Json (Part)
namespace Pip
section
variable {p:Pin} {b:Nat} {h:Own.Heap} {w:World}
theorem pinstep_any {n : Nat} (hi : p.Is b h) (hw : Own.Has w h) (hf : p.Fits n) (hn : n ≤ 1000000) (x : UInt8) :
  Calls Tryz.prog 210 #[.pointer (some ⟨b,0,none⟩),.int .u8 (x.toNat:Int)] w (PinTells (p.step x) b h w):=by
 obtain ⟨c3,-,-,-,-⟩:=Core.Is.cell hi hw;obtain ⟨c12,-⟩:=hi.cells_ hw;have TR:=hhh (Own.Turn.refl hw);have HI:=hhh hi;rcases Nat.eq_zero_or_pos p.c.e with h0 | h0
 ·have HP0:p.step x=((p.act x).1,(p.act x).2,(p.act x).1.c.e):=by unfold Pin.step;rw [if_neg (by omega)]
  have HA:p.act x=if 0 < p.c.lack then p.on (p.c.byte x) else if p.kind ≠ 0 then p.number x else p.item x:=rfl
  have HL:=hhh (clacks_any hi hw);have H1:=fun (hl:0 < p.c.lack)=>(cbyte_any hi hw hf.c hn hl x)
  have H2:=fun (hk:p.kind ≠ 0)=>(pnumber_any hi hw hf hn h0 hk x)
  have H4:=hhh (pitem_any hi hw hf hn x);rw [h0] at c3;generalize p.step x=S at HP0 |-;have fin:∀ A:Pin × List Part,p.act x=A -> ∀ (v:Value) (hv h':Own.Heap) (w':World),Own.Slc 20 (partCells A.2) v hv -> A.1.Is b h' -> Own.Turn h (hv ++ h') w w' -> PinTells S b h w (.returned (.tuple #[v,.int .i64 (A.1.c.e:Int)])) w':=by
   intro A hA v hv h' w' s i t;rw [HP0,hA];exact ⟨v,hv,h',rfl,s,i,t⟩
  have Fin:=hhh fin;have HAh:=hhh HA;clear hi hw hf HP0 HA fin hn h0;by_cases hl:0 < p.c.lack
  ·have HP:=hhh (HAh.o.trans (if_pos hl))
   have HC:=hhh (H1 hl);have hld:decide (0 < p.c.lack)=true:=by simpa using hl
   rw [hld] at HL;clear hl hld H1 H2 H4 HAh;go_enter Tryz.func210,Tryz.ntmps210;go_wp2_with (fail);refine HL.o.mono ?_;rintro e w2 ⟨rfl,rfl⟩;go_wp2_with (fail);refine HC.o.mono ?_;rintro e w4 ⟨v,hv,h4,rfl,hs,i4,t4⟩;have HI4:=hhh i4;have HT4:=hhh t4;have HS4:=hhh hs;obtain ⟨d3,-⟩:=Core.Is.cell i4 t4.has.right;clear i4 t4 hs;go_wp2;go_quiet (fail);go_wp2;go_ret2;exact Fin.o _ HP.o _ _ _ _ HS4.o HI4.o (HT4.o.drewN _)
  ·have HPn:=HAh.o.trans (if_neg hl)
   have hld:decide (0 < p.c.lack)=false:=by simpa using hl
   rw [hld] at HL;rcases Nat.eq_zero_or_pos p.kind with hk | hk
   ·have HP:=hhh (HPn.trans (if_neg (by omega)))
    rw [hk] at c12;clear hl hld H1 H2 HAh HPn hk;go_enter Tryz.func210,Tryz.ntmps210;go_wp2_with (fail);refine HL.o.mono ?_;rintro e w2 ⟨rfl,rfl⟩;go_wp2_with (fail);refine H4.o.mono ?_;rintro e w4 ⟨v,hv,h4,rfl,hs,i4,t4⟩;have HI4:=hhh i4;have HT4:=hhh t4;have HS4:=hhh hs;obtain ⟨d3,-⟩:=Core.Is.cell i4 t4.has.right;clear i4 t4 hs;go_wp2;go_quiet (fail);go_wp2;go_ret2;exact Fin.o _ HP.o _ _ _ _ HS4.o HI4.o (HT4.o.drewN _)
   ·have HP:=hhh (HPn.trans (if_pos (by omega)))
    have H2k:=hhh (H2 (by omega));have hkb:((p.kind:Int) != 0)=true:=by rw [bne_iff_ne];omega
    clear hl hld H1 H2 H4 HAh HPn hk;go_enter Tryz.func210,Tryz.ntmps210;go_wp2_with (fail);refine HL.o.mono ?_;rintro e w2 ⟨rfl,rfl⟩;go_wp2_with (fail);refine H2k.o.mono ?_;rintro e w4 ⟨v,hv,h4,rfl,hs,i4,t4⟩;have HI4:=hhh i4;have HT4:=hhh t4;have HS4:=hhh hs;obtain ⟨d3,-⟩:=Core.Is.cell i4 t4.has.right;clear i4 t4 hs;go_wp2;go_quiet (fail);go_wp2;go_ret2;exact Fin.o _ HP.o _ _ _ _ HS4.o HI4.o (HT4.o.drewN _)
 ·have HP:=hhh (show p.step x=(p,[],p.c.e) by unfold Pin.step;rw [if_pos (by omega)])
  have hne:((p.c.e:Int) != 0)=true:=by rw [bne_iff_ne];omega
  clear hi hw hf hn h0;go_enter Tryz.func210,Tryz.ntmps210;go_wp2;go_quiet (fail);go_wp2;go_ret2;rw [HP.o];exact ⟨_,[],h,rfl,.bare _ rfl,HI.o,TR.o.drewN _⟩
end
end Pip
end
section
open Go.RowKit
namespace Pip
theorem number_cv (e:Int) (w:World):(convert 62 9 (.slice (some ⟨w.heap.size,0,none⟩) 1 1)).run Tryz.prog (w.alloc (.cells #[.int .u8 (e % 256)] 5)) = .ok (.string ⟨([UInt8.ofNat (e % 256).toNat]:List UInt8).toArray⟩) (w.alloc (.cells #[.int .u8 (e % 256)] 5)):=by
 have h:=hcv_new w w.heap.size rfl [UInt8.ofNat (e % 256).toNat] 1 rfl (by decide);have e1:(u8s [UInt8.ofNat (e % 256).toNat]).toArray = #[.int .u8 (e % 256)]:=by
  simp only [u8s,List.map_cons,List.map_nil,UInt8.toNat_ofNat'];rw [show (((e % 256).toNat % 2 ^ 8:Nat):Int)=e % 256 by omega]
 rw [e1] at h;exact h
theorem numb_any (e:Int) (w:World):Calls Tryz.prog 79 #[.int .i64 e] w fun r w'=>r = .returned (.string ⟨([UInt8.ofNat (e % 256).toNat]:List UInt8).toArray⟩) /\ Below w.heap.size w w':=by
 have HB:=hhh (fun o=>(Below.refl w.heap.size w).alloc (Nat.le_refl _) o);have hcv:=number_cv e w;obtain ⟨S,hS⟩:∃ S:ByteArray,S=⟨([UInt8.ofNat (e % 256).toNat]:List UInt8).toArray⟩:=⟨_,rfl⟩;rw [<- hS] at hcv |-;clear hS;go_enter Tryz.func79,Tryz.ntmps79;go_wp2;go_ret;exact ⟨rfl,HB.o _⟩
theorem cat_bytes0 (a b:List UInt8):(⟨a.toArray⟩:ByteArray) ++ ⟨b.toArray⟩=⟨(a ++ b).toArray⟩:=by
 apply ByteArray.ext;simp
theorem cat_one (a:UInt8) (l:List UInt8):(⟨#[a]⟩:ByteArray) ++ ⟨l.toArray⟩=⟨(a :: l).toArray⟩:=cat_bytes0 [a] l
theorem no_any (e:Int) (w:World):Calls Tryz.prog 56 #[.int .i64 e] w fun r w'=>r = .returned (.string ⟨([78,UInt8.ofNat (e % 256).toNat]:List UInt8).toArray⟩) /\ Below w.heap.size w w':=by
 have HN:=hhh (numb_any e w);have HC:=hhh (cat_one 78 [UInt8.ofNat (e % 256).toNat]);obtain ⟨S,hS⟩:∃ S:ByteArray,S=⟨([UInt8.ofNat (e % 256).toNat]:List UInt8).toArray⟩:=⟨_,rfl⟩;have hz:S.size=1:=by rw [hS];rfl
 rw [<- hS] at HN HC;clear hS;go_enter Tryz.func56,Tryz.ntmps56;go_wp2_with (fail);refine HN.o.mono ?_;rintro r w1 ⟨rfl,b1⟩;go_wp2;go_ret;exact ⟨by rw [<- HC.o];rfl,b1⟩
theorem trailer_any (e:Int) (w:World):Calls Tryz.prog 59 #[.int .i64 e] w fun r w'=>r = .returned (.string ⟨([255,UInt8.ofNat (e % 256).toNat]:List UInt8).toArray⟩) /\ Below w.heap.size w w':=by
 have HN:=hhh (numb_any e w);have HC:=hhh (cat_one 255 [UInt8.ofNat (e % 256).toNat]);obtain ⟨S,hS⟩:∃ S:ByteArray,S=⟨([UInt8.ofNat (e % 256).toNat]:List UInt8).toArray⟩:=⟨_,rfl⟩;have hz:S.size=1:=by rw [hS];rfl
 rw [<- hS] at HN HC;clear hS;go_enter Tryz.func59,Tryz.ntmps59;go_wp2_with (fail);refine HN.o.mono ?_;rintro r w1 ⟨rfl,b1⟩;go_wp2;go_ret;exact ⟨by rw [<- HC.o];rfl,b1⟩
theorem yes_any (w:World):Calls Tryz.prog 58 #[] w fun r w'=>r = .returned (.string ⟨#[75]⟩) /\ w=w':=by
 go_enter Tryz.func58,Tryz.ntmps58;go_wp2;go_ret;exact ⟨rfl,rfl⟩
end Pip
end
end Go.Proofs.YtjfblahlkjopcaaGreat
