/- Texts of the walk, joined. -/
import Derived.Test.YtjfblahlkjopcaaGreatM25
set_option maxRecDepth 100000
set_option maxHeartbeats 8000000
namespace Go.Proofs.YtjfblahlkjopcaaGreat
section
open Go.RowKit
open Json (Part)
namespace Pip
section
variable {p:Pin} {b:Nat} {h:Own.Heap} {w:World}
theorem pitem_193 {n : Nat} (hi : p.Is b h) (hw : Own.Has w h) (hf : p.Fits n) (hn : n ≤ 1000000) (x : UInt8) (hlo : 193 ≤ x.toNat) (hhi : x.toNat ≤ 193) :
  Calls Tryz.prog 212 #[.pointer (some ⟨b,0,none⟩),.int .u8 (x.toNat:Int)] w (PinDoes (p.item x) b h w):=by
 obtain ⟨N,hN⟩:∃ N,N=x.toNat:=⟨_,rfl⟩
 have HP0 : p.item x = if p.c.done = true ∨ N = 193 then p.on (p.c.fail 2) else if p.c.atKey = true ∧ isText x = false then p.on (p.c.fail 8) else if (199 ≤ N ∧ N ≤ 201) ∨ (212 ≤ N ∧ N ≤ 216) then p.on (p.c.fail 8)
   else if N=202 \/ N=203 then p.on (p.c.fail 6) else if isContainer x=true /\ p.c.full=true then p.on (p.c.fail 4) else if N < 128 then p.on (p.c.value (.whole false N)) else if 224 <= N then p.on (p.c.value (.whole true (255 - N)))
   else if N < 160 then p.count (decide (N < 144)) (N % 16) else if N < 192 then p.on (p.c.length true (N % 32)) else if N=192 then p.on (p.c.value .null) else if N <= 195 then p.on (p.c.value (.bool (decide (N=195)))) else p.long x:=by rw [hN];rfl
 have HF:=hhh (fun (u:World) (t:Own.Turn h h w u) e=>cfail_any hi t.has e);have HF0:=hhh (fun e=>cfail_any hi hw e);have HD:=hhh (cdone_any hi hw);have HA:=hhh (catkey_any hi hw hf.c);have HFu:=hhh (fun (u:World) (t:Own.Turn h h w u)=>cfull_any hi t.has);have HV:=hhh (fun (u:World) (t:Own.Turn h h w u) v=>cvalue_any hi t.has hf.c hn v);have HLe:=hhh (fun (u:World) (t:Own.Turn h h w u) m=>clength_any hi t.has hf.c hn true m);have HCo:=hhh (fun (u:World) (t:Own.Turn h h w u) pr m=>pcount_any hi t.has hf.c hn pr m);have HLo:=hhh (fun (u:World) (t:Own.Turn h h w u) g1 g2 g3 g4=>plong_any hi t.has x g1 g2 g3 g4);have HX0:=fun u=>ptext_any x u
 have HK:=hhh (fun u=>pcontainer_any x u);have HXd:isText x=false:=by unfold isText;simp;omega
 have HKd:isContainer x=((decide (128 <= N) && decide (N <= 159)) || (decide (220 <= N) && decide (N <= 223))):=by rw [hN];rfl
 rw [HXd] at HX0 HP0;have HX:=hhh HX0;have HKh:=hhh HKd;have hltI:(N:Int) < 256:=by omega
 have HNl:=hhh (show N < 256 by omega);have eA:bits .and .u8 (N:Int) 15=(N:Int) % 16:=bits_mask .u8 8 (by decide) wraps_u8 4 (by decide) (N:Int) (by omega) (by omega);have eB:bits .and .u8 (N:Int) 31=(N:Int) % 32:=bits_mask .u8 8 (by decide) wraps_u8 5 (by decide) (N:Int) (by omega) (by omega);obtain ⟨D,hD⟩:∃ D,D=255 - N:=⟨_,rfl⟩;have eX:bits .xor .u8 IntKind.u8.max (N:Int)=(D:Int):=by
  have:=u8_not ⟨N,by omega⟩;simp only at this;show bits .xor .u8 255 (N:Int)=(D:Int);rw [this];omega
 have eW:IntKind.u64.wrap (D:Int)=(D:Int):=by rw [IntKind.wrap_u64];omega
 rw [<- hD] at HP0;have HDl:=hhh (show D < 256 by omega);clear hD;have HPh:=hhh HP0;have HNb:=hhh (show 193 <= N /\ N <= 193 by omega);rw [<- hN];rw [<- hN] at HX HK HLo;generalize p.item x=O at HPh |-;generalize isContainer x=K at HKh HPh HK;clear hi hw hf HP0 hN hn HXd HKd hlo hhi HX0;clear eA eB eX eW hltI HNl;obtain rfl:N=193:=by have:=HNb.o;omega
 simp only [Int.cast_ofNat_Int] at HX HK HLo |-;go_enter Tryz.func212,Tryz.ntmps212;go_wp2_with (fail);refine HD.o.mono ?_;rintro e w1 ⟨rfl,rfl⟩
 cases hd:p.c.done
 case true =>
  have HP:=hhh (HPh.o.trans (if_pos (.inl hd)));clear HPh hd;go_wp2_with (fail);refine (HF0.o 2).mono ?_;rintro e w4 ⟨v,hv,h4,rfl,hs,i4,t4⟩;have HI4:=hhh i4;have HT4:=hhh t4;have HS4:=hhh hs;clear i4 t4 hs;go_wp2;go_ret;rw [HP.o];exact ⟨_,hv,h4,rfl,HS4.o,HI4.o,HT4.o⟩
 case false =>
  have HP:=hhh (HPh.o.trans (if_pos (.inr (by first | (have:=HNb.o;omega) | trivial | (simp;done)))));clear HPh hd;go_wp2_with (fail);refine (HF0.o 2).mono ?_;rintro e w4 ⟨v,hv,h4,rfl,hs,i4,t4⟩;have HI4:=hhh i4;have HT4:=hhh t4;have HS4:=hhh hs;clear i4 t4 hs;go_wp2;go_ret;rw [HP.o];exact ⟨_,hv,h4,rfl,HS4.o,HI4.o,HT4.o⟩
theorem pitem_194 {n : Nat} (hi : p.Is b h) (hw : Own.Has w h) (hf : p.Fits n) (hn : n ≤ 1000000) (x : UInt8) (hlo : 194 ≤ x.toNat) (hhi : x.toNat ≤ 194) :
  Calls Tryz.prog 212 #[.pointer (some ⟨b,0,none⟩),.int .u8 (x.toNat:Int)] w (PinDoes (p.item x) b h w):=by
 obtain ⟨N,hN⟩:∃ N,N=x.toNat:=⟨_,rfl⟩
 have HP0 : p.item x = if p.c.done = true ∨ N = 193 then p.on (p.c.fail 2) else if p.c.atKey = true ∧ isText x = false then p.on (p.c.fail 8) else if (199 ≤ N ∧ N ≤ 201) ∨ (212 ≤ N ∧ N ≤ 216) then p.on (p.c.fail 8)
   else if N=202 \/ N=203 then p.on (p.c.fail 6) else if isContainer x=true /\ p.c.full=true then p.on (p.c.fail 4) else if N < 128 then p.on (p.c.value (.whole false N)) else if 224 <= N then p.on (p.c.value (.whole true (255 - N)))
   else if N < 160 then p.count (decide (N < 144)) (N % 16) else if N < 192 then p.on (p.c.length true (N % 32)) else if N=192 then p.on (p.c.value .null) else if N <= 195 then p.on (p.c.value (.bool (decide (N=195)))) else p.long x:=by rw [hN];rfl
 have HF:=hhh (fun (u:World) (t:Own.Turn h h w u) e=>cfail_any hi t.has e);have HF0:=hhh (fun e=>cfail_any hi hw e);have HD:=hhh (cdone_any hi hw);have HA:=hhh (catkey_any hi hw hf.c);have HFu:=hhh (fun (u:World) (t:Own.Turn h h w u)=>cfull_any hi t.has);have HV:=hhh (fun (u:World) (t:Own.Turn h h w u) v=>cvalue_any hi t.has hf.c hn v);have HLe:=hhh (fun (u:World) (t:Own.Turn h h w u) m=>clength_any hi t.has hf.c hn true m);have HCo:=hhh (fun (u:World) (t:Own.Turn h h w u) pr m=>pcount_any hi t.has hf.c hn pr m);have HLo:=hhh (fun (u:World) (t:Own.Turn h h w u) g1 g2 g3 g4=>plong_any hi t.has x g1 g2 g3 g4);have HX0:=fun u=>ptext_any x u
 have HK:=hhh (fun u=>pcontainer_any x u);have HXd:isText x=false:=by unfold isText;simp;omega
 have HKd:isContainer x=((decide (128 <= N) && decide (N <= 159)) || (decide (220 <= N) && decide (N <= 223))):=by rw [hN];rfl
 rw [HXd] at HX0 HP0;have HX:=hhh HX0;have HKh:=hhh HKd;have hltI:(N:Int) < 256:=by omega
 have HNl:=hhh (show N < 256 by omega);have eA:bits .and .u8 (N:Int) 15=(N:Int) % 16:=bits_mask .u8 8 (by decide) wraps_u8 4 (by decide) (N:Int) (by omega) (by omega);have eB:bits .and .u8 (N:Int) 31=(N:Int) % 32:=bits_mask .u8 8 (by decide) wraps_u8 5 (by decide) (N:Int) (by omega) (by omega);obtain ⟨D,hD⟩:∃ D,D=255 - N:=⟨_,rfl⟩;have eX:bits .xor .u8 IntKind.u8.max (N:Int)=(D:Int):=by
  have:=u8_not ⟨N,by omega⟩;simp only at this;show bits .xor .u8 255 (N:Int)=(D:Int);rw [this];omega
 have eW:IntKind.u64.wrap (D:Int)=(D:Int):=by rw [IntKind.wrap_u64];omega
 rw [<- hD] at HP0;have HDl:=hhh (show D < 256 by omega);clear hD;have HPh:=hhh HP0;have HNb:=hhh (show 194 <= N /\ N <= 194 by omega);rw [<- hN];rw [<- hN] at HX HK HLo;generalize p.item x=O at HPh |-;generalize isContainer x=K at HKh HPh HK;clear hi hw hf HP0 hN hn HXd HKd hlo hhi HX0;clear eA eB eX eW hltI HNl;obtain rfl:N=194:=by have:=HNb.o;omega
 simp only [Int.cast_ofNat_Int] at HX HK HLo |-;go_enter Tryz.func212,Tryz.ntmps212;go_wp2_with (fail);refine HD.o.mono ?_;rintro e w1 ⟨rfl,rfl⟩
 cases hd:p.c.done
 case true =>
  have HP:=hhh (HPh.o.trans (if_pos (.inl hd)));clear HPh hd;go_wp2_with (fail);refine (HF0.o 2).mono ?_;rintro e w4 ⟨v,hv,h4,rfl,hs,i4,t4⟩;have HI4:=hhh i4;have HT4:=hhh t4;have HS4:=hhh hs;clear i4 t4 hs;go_wp2;go_ret;rw [HP.o];exact ⟨_,hv,h4,rfl,HS4.o,HI4.o,HT4.o⟩
 case false =>
  have HPd:=hhh (HPh.o.trans (if_neg (by rw [hd];first | (simp;done) | (have:=HNb.o;simp;omega))));clear HPh hd;go_wp2_with (fail);refine HA.o.mono ?_;rintro e w2 ⟨rfl,t2⟩;have T2:=hhh t2;clear t2
  cases hk:p.c.atKey
  ·have HPk:=hhh (HPd.o.trans (if_neg (by rw [hk];simp)))
   clear HPd hk HX;have HPl:=hhh (HPk.o.trans (if_neg (by first | (have:=HNb.o;omega) | trivial | (simp;done))));clear HPk;have HPm:=hhh (HPl.o.trans (if_neg (by first | (have:=HNb.o;omega) | trivial | (simp;done))));clear HPl;have hK:K=false:=by rw [HKh.o];have:=HNb.o;first | (simp;done) | (simp;omega)
   rw [hK] at HK HPm;clear hK HKh;go_wp2_with (fail);refine (HK.o _).mono ?_;rintro e w3 ⟨rfl,rfl⟩;have HPn:=hhh (HPm.o.trans (if_neg (by simp)));clear HPm;have HP:=hhh ((((((HPn.o.trans (if_neg (by first | (have:=HNb.o;omega) | trivial | (simp;done)))).trans (if_neg (by first | (have:=HNb.o;omega) | trivial | (simp;done)))).trans (if_neg (by first | (have:=HNb.o;omega) | trivial | (simp;done)))).trans (if_neg (by first | (have:=HNb.o;omega) | trivial | (simp;done)))).trans (if_neg (by first | (have:=HNb.o;omega) | trivial | (simp;done)))).trans ((if_pos (by first | (have:=HNb.o;omega) | trivial | (simp;done))).trans (show _=p.on (p.c.value (.bool false)) by first | rfl | (simp;done) | rw [show decide (194=195)=false by have:=HNb.o;first | (simp;done) | (simp;omega)])));clear HPn HNb;go_wp2_with (fail);refine (HV.o _ T2.o (.bool false)).mono ?_;rintro e w4 ⟨v,hv,h4,rfl,hs,i4,t4⟩;have HI4:=hhh i4;have HT4:=hhh t4;have HS4:=hhh hs;clear i4 t4 hs;go_wp2;go_ret;rw [HP.o];exact ⟨_,hv,h4,rfl,HS4.o,HI4.o,T2.o.trans HT4.o⟩
  ·go_wp2_with (fail)
   refine (HX.o _).mono ?_;rintro e w3 ⟨rfl,rfl⟩;have HP:=hhh (HPd.o.trans (if_pos (by rw [hk];simp)));clear HPd hk HX;go_wp2_with (fail);refine (HF.o _ T2.o 8).mono ?_;rintro e w4 ⟨v,hv,h4,rfl,hs,i4,t4⟩;have HI4:=hhh i4;have HT4:=hhh t4;have HS4:=hhh hs;clear i4 t4 hs;go_wp2;go_ret;rw [HP.o];exact ⟨_,hv,h4,rfl,HS4.o,HI4.o,T2.o.trans HT4.o⟩
theorem pitem_195 {n : Nat} (hi : p.Is b h) (hw : Own.Has w h) (hf : p.Fits n) (hn : n ≤ 1000000) (x : UInt8) (hlo : 195 ≤ x.toNat) (hhi : x.toNat ≤ 195) :
  Calls Tryz.prog 212 #[.pointer (some ⟨b,0,none⟩),.int .u8 (x.toNat:Int)] w (PinDoes (p.item x) b h w):=by
 obtain ⟨N,hN⟩:∃ N,N=x.toNat:=⟨_,rfl⟩
 have HP0 : p.item x = if p.c.done = true ∨ N = 193 then p.on (p.c.fail 2) else if p.c.atKey = true ∧ isText x = false then p.on (p.c.fail 8) else if (199 ≤ N ∧ N ≤ 201) ∨ (212 ≤ N ∧ N ≤ 216) then p.on (p.c.fail 8)
   else if N=202 \/ N=203 then p.on (p.c.fail 6) else if isContainer x=true /\ p.c.full=true then p.on (p.c.fail 4) else if N < 128 then p.on (p.c.value (.whole false N)) else if 224 <= N then p.on (p.c.value (.whole true (255 - N)))
   else if N < 160 then p.count (decide (N < 144)) (N % 16) else if N < 192 then p.on (p.c.length true (N % 32)) else if N=192 then p.on (p.c.value .null) else if N <= 195 then p.on (p.c.value (.bool (decide (N=195)))) else p.long x:=by rw [hN];rfl
 have HF:=hhh (fun (u:World) (t:Own.Turn h h w u) e=>cfail_any hi t.has e);have HF0:=hhh (fun e=>cfail_any hi hw e);have HD:=hhh (cdone_any hi hw);have HA:=hhh (catkey_any hi hw hf.c);have HFu:=hhh (fun (u:World) (t:Own.Turn h h w u)=>cfull_any hi t.has);have HV:=hhh (fun (u:World) (t:Own.Turn h h w u) v=>cvalue_any hi t.has hf.c hn v);have HLe:=hhh (fun (u:World) (t:Own.Turn h h w u) m=>clength_any hi t.has hf.c hn true m);have HCo:=hhh (fun (u:World) (t:Own.Turn h h w u) pr m=>pcount_any hi t.has hf.c hn pr m);have HLo:=hhh (fun (u:World) (t:Own.Turn h h w u) g1 g2 g3 g4=>plong_any hi t.has x g1 g2 g3 g4);have HX0:=fun u=>ptext_any x u
 have HK:=hhh (fun u=>pcontainer_any x u);have HXd:isText x=false:=by unfold isText;simp;omega
 have HKd:isContainer x=((decide (128 <= N) && decide (N <= 159)) || (decide (220 <= N) && decide (N <= 223))):=by rw [hN];rfl
 rw [HXd] at HX0 HP0;have HX:=hhh HX0;have HKh:=hhh HKd;have hltI:(N:Int) < 256:=by omega
 have HNl:=hhh (show N < 256 by omega);have eA:bits .and .u8 (N:Int) 15=(N:Int) % 16:=bits_mask .u8 8 (by decide) wraps_u8 4 (by decide) (N:Int) (by omega) (by omega);have eB:bits .and .u8 (N:Int) 31=(N:Int) % 32:=bits_mask .u8 8 (by decide) wraps_u8 5 (by decide) (N:Int) (by omega) (by omega);obtain ⟨D,hD⟩:∃ D,D=255 - N:=⟨_,rfl⟩;have eX:bits .xor .u8 IntKind.u8.max (N:Int)=(D:Int):=by
  have:=u8_not ⟨N,by omega⟩;simp only at this;show bits .xor .u8 255 (N:Int)=(D:Int);rw [this];omega
 have eW:IntKind.u64.wrap (D:Int)=(D:Int):=by rw [IntKind.wrap_u64];omega
 rw [<- hD] at HP0;have HDl:=hhh (show D < 256 by omega);clear hD;have HPh:=hhh HP0;have HNb:=hhh (show 195 <= N /\ N <= 195 by omega);rw [<- hN];rw [<- hN] at HX HK HLo;generalize p.item x=O at HPh |-;generalize isContainer x=K at HKh HPh HK;clear hi hw hf HP0 hN hn HXd HKd hlo hhi HX0;clear eA eB eX eW hltI HNl;obtain rfl:N=195:=by have:=HNb.o;omega
 simp only [Int.cast_ofNat_Int] at HX HK HLo |-;go_enter Tryz.func212,Tryz.ntmps212;go_wp2_with (fail);refine HD.o.mono ?_;rintro e w1 ⟨rfl,rfl⟩
 cases hd:p.c.done
 case true =>
  have HP:=hhh (HPh.o.trans (if_pos (.inl hd)));clear HPh hd;go_wp2_with (fail);refine (HF0.o 2).mono ?_;rintro e w4 ⟨v,hv,h4,rfl,hs,i4,t4⟩;have HI4:=hhh i4;have HT4:=hhh t4;have HS4:=hhh hs;clear i4 t4 hs;go_wp2;go_ret;rw [HP.o];exact ⟨_,hv,h4,rfl,HS4.o,HI4.o,HT4.o⟩
 case false =>
  have HPd:=hhh (HPh.o.trans (if_neg (by rw [hd];first | (simp;done) | (have:=HNb.o;simp;omega))));clear HPh hd;go_wp2_with (fail);refine HA.o.mono ?_;rintro e w2 ⟨rfl,t2⟩;have T2:=hhh t2;clear t2
  cases hk:p.c.atKey
  ·have HPk:=hhh (HPd.o.trans (if_neg (by rw [hk];simp)))
   clear HPd hk HX;have HPl:=hhh (HPk.o.trans (if_neg (by first | (have:=HNb.o;omega) | trivial | (simp;done))));clear HPk;have HPm:=hhh (HPl.o.trans (if_neg (by first | (have:=HNb.o;omega) | trivial | (simp;done))));clear HPl;have hK:K=false:=by rw [HKh.o];have:=HNb.o;first | (simp;done) | (simp;omega)
   rw [hK] at HK HPm;clear hK HKh;go_wp2_with (fail);refine (HK.o _).mono ?_;rintro e w3 ⟨rfl,rfl⟩;have HPn:=hhh (HPm.o.trans (if_neg (by simp)));clear HPm;have HP:=hhh ((((((HPn.o.trans (if_neg (by first | (have:=HNb.o;omega) | trivial | (simp;done)))).trans (if_neg (by first | (have:=HNb.o;omega) | trivial | (simp;done)))).trans (if_neg (by first | (have:=HNb.o;omega) | trivial | (simp;done)))).trans (if_neg (by first | (have:=HNb.o;omega) | trivial | (simp;done)))).trans (if_neg (by first | (have:=HNb.o;omega) | trivial | (simp;done)))).trans ((if_pos (by first | (have:=HNb.o;omega) | trivial | (simp;done))).trans (show _=p.on (p.c.value (.bool true)) by first | rfl | (simp;done) | rw [show decide (195=195)=true by have:=HNb.o;first | (simp;done) | (simp;omega)])));clear HPn HNb;go_wp2_with (fail);refine (HV.o _ T2.o (.bool true)).mono ?_;rintro e w4 ⟨v,hv,h4,rfl,hs,i4,t4⟩;have HI4:=hhh i4;have HT4:=hhh t4;have HS4:=hhh hs;clear i4 t4 hs;go_wp2;go_ret;rw [HP.o];exact ⟨_,hv,h4,rfl,HS4.o,HI4.o,T2.o.trans HT4.o⟩
  ·go_wp2_with (fail)
   refine (HX.o _).mono ?_;rintro e w3 ⟨rfl,rfl⟩;have HP:=hhh (HPd.o.trans (if_pos (by rw [hk];simp)));clear HPd hk HX;go_wp2_with (fail);refine (HF.o _ T2.o 8).mono ?_;rintro e w4 ⟨v,hv,h4,rfl,hs,i4,t4⟩;have HI4:=hhh i4;have HT4:=hhh t4;have HS4:=hhh hs;clear i4 t4 hs;go_wp2;go_ret;rw [HP.o];exact ⟨_,hv,h4,rfl,HS4.o,HI4.o,T2.o.trans HT4.o⟩
theorem pitem_196 {n : Nat} (hi : p.Is b h) (hw : Own.Has w h) (hf : p.Fits n) (hn : n ≤ 1000000) (x : UInt8) (hlo : 196 ≤ x.toNat) (hhi : x.toNat ≤ 198) :
  Calls Tryz.prog 212 #[.pointer (some ⟨b,0,none⟩),.int .u8 (x.toNat:Int)] w (PinDoes (p.item x) b h w):=by
 obtain ⟨N,hN⟩:∃ N,N=x.toNat:=⟨_,rfl⟩
 have HP0 : p.item x = if p.c.done = true ∨ N = 193 then p.on (p.c.fail 2) else if p.c.atKey = true ∧ isText x = false then p.on (p.c.fail 8) else if (199 ≤ N ∧ N ≤ 201) ∨ (212 ≤ N ∧ N ≤ 216) then p.on (p.c.fail 8)
   else if N=202 \/ N=203 then p.on (p.c.fail 6) else if isContainer x=true /\ p.c.full=true then p.on (p.c.fail 4) else if N < 128 then p.on (p.c.value (.whole false N)) else if 224 <= N then p.on (p.c.value (.whole true (255 - N)))
   else if N < 160 then p.count (decide (N < 144)) (N % 16) else if N < 192 then p.on (p.c.length true (N % 32)) else if N=192 then p.on (p.c.value .null) else if N <= 195 then p.on (p.c.value (.bool (decide (N=195)))) else p.long x:=by rw [hN];rfl
 have HF:=hhh (fun (u:World) (t:Own.Turn h h w u) e=>cfail_any hi t.has e);have HF0:=hhh (fun e=>cfail_any hi hw e);have HD:=hhh (cdone_any hi hw);have HA:=hhh (catkey_any hi hw hf.c);have HFu:=hhh (fun (u:World) (t:Own.Turn h h w u)=>cfull_any hi t.has);have HV:=hhh (fun (u:World) (t:Own.Turn h h w u) v=>cvalue_any hi t.has hf.c hn v);have HLe:=hhh (fun (u:World) (t:Own.Turn h h w u) m=>clength_any hi t.has hf.c hn true m);have HCo:=hhh (fun (u:World) (t:Own.Turn h h w u) pr m=>pcount_any hi t.has hf.c hn pr m);have HLo:=hhh (fun (u:World) (t:Own.Turn h h w u) g1 g2 g3 g4=>plong_any hi t.has x g1 g2 g3 g4);have HX0:=fun u=>ptext_any x u
 have HK:=hhh (fun u=>pcontainer_any x u);have HXd:isText x=false:=by unfold isText;simp;omega
 have HKd:isContainer x=((decide (128 <= N) && decide (N <= 159)) || (decide (220 <= N) && decide (N <= 223))):=by rw [hN];rfl
 rw [HXd] at HX0 HP0;have HX:=hhh HX0;have HKh:=hhh HKd;have hltI:(N:Int) < 256:=by omega
 have HNl:=hhh (show N < 256 by omega);have eA:bits .and .u8 (N:Int) 15=(N:Int) % 16:=bits_mask .u8 8 (by decide) wraps_u8 4 (by decide) (N:Int) (by omega) (by omega);have eB:bits .and .u8 (N:Int) 31=(N:Int) % 32:=bits_mask .u8 8 (by decide) wraps_u8 5 (by decide) (N:Int) (by omega) (by omega);obtain ⟨D,hD⟩:∃ D,D=255 - N:=⟨_,rfl⟩;have eX:bits .xor .u8 IntKind.u8.max (N:Int)=(D:Int):=by
  have:=u8_not ⟨N,by omega⟩;simp only at this;show bits .xor .u8 255 (N:Int)=(D:Int);rw [this];omega
 have eW:IntKind.u64.wrap (D:Int)=(D:Int):=by rw [IntKind.wrap_u64];omega
 rw [<- hD] at HP0;have HDl:=hhh (show D < 256 by omega);clear hD;have HPh:=hhh HP0;have HNb:=hhh (show 196 <= N /\ N <= 198 by omega);rw [<- hN];rw [<- hN] at HX HK HLo;generalize p.item x=O at HPh |-;generalize isContainer x=K at HKh HPh HK;clear hi hw hf HP0 hN hn HXd HKd hlo hhi HX0;have q0:((N:Int) == 193)=false:=by rw [beq_eq_false_iff_ne];have:=HNb.o;omega
 go_enter Tryz.func212,Tryz.ntmps212;go_wp2_with (fail);refine HD.o.mono ?_;rintro e w1 ⟨rfl,rfl⟩
 cases hd:p.c.done
 case true =>
  have HP:=hhh (HPh.o.trans (if_pos (.inl hd)));clear HPh hd;go_wp2_with (fail);refine (HF0.o 2).mono ?_;rintro e w4 ⟨v,hv,h4,rfl,hs,i4,t4⟩;have HI4:=hhh i4;have HT4:=hhh t4;have HS4:=hhh hs;clear i4 t4 hs;go_wp2;go_ret;rw [HP.o];exact ⟨_,hv,h4,rfl,HS4.o,HI4.o,HT4.o⟩
 case false =>
  have HPd:=hhh (HPh.o.trans (if_neg (by rw [hd];first | (simp;done) | (have:=HNb.o;simp;omega))));clear HPh hd;go_wp2_with (fail);refine HA.o.mono ?_;rintro e w2 ⟨rfl,t2⟩;have T2:=hhh t2;clear t2
  cases hk:p.c.atKey
  ·have HPk:=hhh (HPd.o.trans (if_neg (by rw [hk];simp)))
   clear HPd hk HX;have a1:¬ (199:Int) <= (N:Int):=by have:=HNb.o;omega
   have a3:¬ (212:Int) <= (N:Int):=by have:=HNb.o;omega
   have a5:((N:Int) == 202)=false:=by rw [beq_eq_false_iff_ne];have:=HNb.o;omega
   have a6:((N:Int) == 203)=false:=by rw [beq_eq_false_iff_ne];have:=HNb.o;omega
   have a7:¬ (N:Int) < 128:=by have:=HNb.o;omega
   have a8:¬ (224:Int) <= (N:Int):=by have:=HNb.o;omega
   have a9:¬ (N:Int) < 160:=by have:=HNb.o;omega
   have b2:¬ (N:Int) < 192:=by have:=HNb.o;omega
   have b3:((N:Int) == 192)=false:=by rw [beq_eq_false_iff_ne];have:=HNb.o;omega
   have b4:¬ (N:Int) <= 195:=by have:=HNb.o;omega
   have b5:((N:Int) == 195)=false:=by rw [beq_eq_false_iff_ne];have:=HNb.o;omega
   have HPl:=hhh (HPk.o.trans (if_neg (by first | (have:=HNb.o;omega) | trivial | (simp;done))));clear HPk;have HPm:=hhh (HPl.o.trans (if_neg (by first | (have:=HNb.o;omega) | trivial | (simp;done))));clear HPl;have hK:K=false:=by rw [HKh.o];have:=HNb.o;first | (simp;done) | (simp;omega)
   rw [hK] at HK HPm;clear hK HKh;go_wp2_with (fail);refine (HK.o _).mono ?_;rintro e w3 ⟨rfl,rfl⟩;have HPn:=hhh (HPm.o.trans (if_neg (by simp)));clear HPm;have HC2:=hhh (HLo.o _ T2.o (by first | (have:=HNb.o;omega) | trivial | (simp;done)) (by first | (have:=HNb.o;omega) | trivial | (simp;done)) (by first | (have:=HNb.o;omega) | trivial | (simp;done)) (by first | (have:=HNb.o;omega) | trivial | (simp;done)));have HP:=hhh ((((((HPn.o.trans (if_neg (by first | (have:=HNb.o;omega) | trivial | (simp;done)))).trans (if_neg (by first | (have:=HNb.o;omega) | trivial | (simp;done)))).trans (if_neg (by first | (have:=HNb.o;omega) | trivial | (simp;done)))).trans (if_neg (by first | (have:=HNb.o;omega) | trivial | (simp;done)))).trans (if_neg (by first | (have:=HNb.o;omega) | trivial | (simp;done)))).trans (if_neg (by first | (have:=HNb.o;omega) | trivial | (simp;done))));clear HPn HNb;go_wp2_with (fail);refine (HC2.o).mono ?_;rintro e w4 ⟨v,hv,h4,rfl,hs,i4,t4⟩;have HI4:=hhh i4;have HT4:=hhh t4;have HS4:=hhh hs;clear i4 t4 hs;go_wp2;go_ret;rw [HP.o];exact ⟨_,hv,h4,rfl,HS4.o,HI4.o,T2.o.trans HT4.o⟩
  ·go_wp2_with (fail)
   refine (HX.o _).mono ?_;rintro e w3 ⟨rfl,rfl⟩;have HP:=hhh (HPd.o.trans (if_pos (by rw [hk];simp)));clear HPd hk HX;go_wp2_with (fail);refine (HF.o _ T2.o 8).mono ?_;rintro e w4 ⟨v,hv,h4,rfl,hs,i4,t4⟩;have HI4:=hhh i4;have HT4:=hhh t4;have HS4:=hhh hs;clear i4 t4 hs;go_wp2;go_ret;rw [HP.o];exact ⟨_,hv,h4,rfl,HS4.o,HI4.o,T2.o.trans HT4.o⟩
theorem pitem_199 {n : Nat} (hi : p.Is b h) (hw : Own.Has w h) (hf : p.Fits n) (hn : n ≤ 1000000) (x : UInt8) (hlo : 199 ≤ x.toNat) (hhi : x.toNat ≤ 201) :
  Calls Tryz.prog 212 #[.pointer (some ⟨b,0,none⟩),.int .u8 (x.toNat:Int)] w (PinDoes (p.item x) b h w):=by
 obtain ⟨N,hN⟩:∃ N,N=x.toNat:=⟨_,rfl⟩
 have HP0 : p.item x = if p.c.done = true ∨ N = 193 then p.on (p.c.fail 2) else if p.c.atKey = true ∧ isText x = false then p.on (p.c.fail 8) else if (199 ≤ N ∧ N ≤ 201) ∨ (212 ≤ N ∧ N ≤ 216) then p.on (p.c.fail 8)
   else if N=202 \/ N=203 then p.on (p.c.fail 6) else if isContainer x=true /\ p.c.full=true then p.on (p.c.fail 4) else if N < 128 then p.on (p.c.value (.whole false N)) else if 224 <= N then p.on (p.c.value (.whole true (255 - N)))
   else if N < 160 then p.count (decide (N < 144)) (N % 16) else if N < 192 then p.on (p.c.length true (N % 32)) else if N=192 then p.on (p.c.value .null) else if N <= 195 then p.on (p.c.value (.bool (decide (N=195)))) else p.long x:=by rw [hN];rfl
 have HF:=hhh (fun (u:World) (t:Own.Turn h h w u) e=>cfail_any hi t.has e);have HF0:=hhh (fun e=>cfail_any hi hw e);have HD:=hhh (cdone_any hi hw);have HA:=hhh (catkey_any hi hw hf.c);have HFu:=hhh (fun (u:World) (t:Own.Turn h h w u)=>cfull_any hi t.has);have HV:=hhh (fun (u:World) (t:Own.Turn h h w u) v=>cvalue_any hi t.has hf.c hn v);have HLe:=hhh (fun (u:World) (t:Own.Turn h h w u) m=>clength_any hi t.has hf.c hn true m);have HCo:=hhh (fun (u:World) (t:Own.Turn h h w u) pr m=>pcount_any hi t.has hf.c hn pr m);have HLo:=hhh (fun (u:World) (t:Own.Turn h h w u) g1 g2 g3 g4=>plong_any hi t.has x g1 g2 g3 g4);have HX0:=fun u=>ptext_any x u
 have HK:=hhh (fun u=>pcontainer_any x u);have HXd:isText x=false:=by unfold isText;simp;omega
 have HKd:isContainer x=((decide (128 <= N) && decide (N <= 159)) || (decide (220 <= N) && decide (N <= 223))):=by rw [hN];rfl
 rw [HXd] at HX0 HP0;have HX:=hhh HX0;have HKh:=hhh HKd;have hltI:(N:Int) < 256:=by omega
 have HNl:=hhh (show N < 256 by omega);have eA:bits .and .u8 (N:Int) 15=(N:Int) % 16:=bits_mask .u8 8 (by decide) wraps_u8 4 (by decide) (N:Int) (by omega) (by omega);have eB:bits .and .u8 (N:Int) 31=(N:Int) % 32:=bits_mask .u8 8 (by decide) wraps_u8 5 (by decide) (N:Int) (by omega) (by omega);obtain ⟨D,hD⟩:∃ D,D=255 - N:=⟨_,rfl⟩;have eX:bits .xor .u8 IntKind.u8.max (N:Int)=(D:Int):=by
  have:=u8_not ⟨N,by omega⟩;simp only at this;show bits .xor .u8 255 (N:Int)=(D:Int);rw [this];omega
 have eW:IntKind.u64.wrap (D:Int)=(D:Int):=by rw [IntKind.wrap_u64];omega
 rw [<- hD] at HP0;have HDl:=hhh (show D < 256 by omega);clear hD;have HPh:=hhh HP0;have HNb:=hhh (show 199 <= N /\ N <= 201 by omega);rw [<- hN];rw [<- hN] at HX HK HLo;generalize p.item x=O at HPh |-;generalize isContainer x=K at HKh HPh HK;clear hi hw hf HP0 hN hn HXd HKd hlo hhi HX0;have q0:((N:Int) == 193)=false:=by rw [beq_eq_false_iff_ne];have:=HNb.o;omega
 go_enter Tryz.func212,Tryz.ntmps212;go_wp2_with (fail);refine HD.o.mono ?_;rintro e w1 ⟨rfl,rfl⟩
 cases hd:p.c.done
 case true =>
  have HP:=hhh (HPh.o.trans (if_pos (.inl hd)));clear HPh hd;go_wp2_with (fail);refine (HF0.o 2).mono ?_;rintro e w4 ⟨v,hv,h4,rfl,hs,i4,t4⟩;have HI4:=hhh i4;have HT4:=hhh t4;have HS4:=hhh hs;clear i4 t4 hs;go_wp2;go_ret;rw [HP.o];exact ⟨_,hv,h4,rfl,HS4.o,HI4.o,HT4.o⟩
 case false =>
  have HPd:=hhh (HPh.o.trans (if_neg (by rw [hd];first | (simp;done) | (have:=HNb.o;simp;omega))));clear HPh hd;go_wp2_with (fail);refine HA.o.mono ?_;rintro e w2 ⟨rfl,t2⟩;have T2:=hhh t2;clear t2
  cases hk:p.c.atKey
  ·have HPk:=hhh (HPd.o.trans (if_neg (by rw [hk];simp)))
   clear HPd hk HX;have a1:(199:Int) <= (N:Int):=by have:=HNb.o;omega
   have a2:(N:Int) <= 201:=by have:=HNb.o;omega
   have HP:=hhh (HPk.o.trans (if_pos (by first | (have:=HNb.o;omega) | trivial | (simp;done))));clear HPk HNb;go_wp2_with (fail);refine (HF.o _ T2.o 8).mono ?_;rintro e w4 ⟨v,hv,h4,rfl,hs,i4,t4⟩;have HI4:=hhh i4;have HT4:=hhh t4;have HS4:=hhh hs;clear i4 t4 hs;go_wp2;go_ret;rw [HP.o];exact ⟨_,hv,h4,rfl,HS4.o,HI4.o,T2.o.trans HT4.o⟩
  ·go_wp2_with (fail)
   refine (HX.o _).mono ?_;rintro e w3 ⟨rfl,rfl⟩;have HP:=hhh (HPd.o.trans (if_pos (by rw [hk];simp)));clear HPd hk HX;go_wp2_with (fail);refine (HF.o _ T2.o 8).mono ?_;rintro e w4 ⟨v,hv,h4,rfl,hs,i4,t4⟩;have HI4:=hhh i4;have HT4:=hhh t4;have HS4:=hhh hs;clear i4 t4 hs;go_wp2;go_ret;rw [HP.o];exact ⟨_,hv,h4,rfl,HS4.o,HI4.o,T2.o.trans HT4.o⟩
theorem pitem_202 {n : Nat} (hi : p.Is b h) (hw : Own.Has w h) (hf : p.Fits n) (hn : n ≤ 1000000) (x : UInt8) (hlo : 202 ≤ x.toNat) (hhi : x.toNat ≤ 202) :
  Calls Tryz.prog 212 #[.pointer (some ⟨b,0,none⟩),.int .u8 (x.toNat:Int)] w (PinDoes (p.item x) b h w):=by
 obtain ⟨N,hN⟩:∃ N,N=x.toNat:=⟨_,rfl⟩
 have HP0 : p.item x = if p.c.done = true ∨ N = 193 then p.on (p.c.fail 2) else if p.c.atKey = true ∧ isText x = false then p.on (p.c.fail 8) else if (199 ≤ N ∧ N ≤ 201) ∨ (212 ≤ N ∧ N ≤ 216) then p.on (p.c.fail 8)
   else if N=202 \/ N=203 then p.on (p.c.fail 6) else if isContainer x=true /\ p.c.full=true then p.on (p.c.fail 4) else if N < 128 then p.on (p.c.value (.whole false N)) else if 224 <= N then p.on (p.c.value (.whole true (255 - N)))
   else if N < 160 then p.count (decide (N < 144)) (N % 16) else if N < 192 then p.on (p.c.length true (N % 32)) else if N=192 then p.on (p.c.value .null) else if N <= 195 then p.on (p.c.value (.bool (decide (N=195)))) else p.long x:=by rw [hN];rfl
 have HF:=hhh (fun (u:World) (t:Own.Turn h h w u) e=>cfail_any hi t.has e);have HF0:=hhh (fun e=>cfail_any hi hw e);have HD:=hhh (cdone_any hi hw);have HA:=hhh (catkey_any hi hw hf.c);have HFu:=hhh (fun (u:World) (t:Own.Turn h h w u)=>cfull_any hi t.has);have HV:=hhh (fun (u:World) (t:Own.Turn h h w u) v=>cvalue_any hi t.has hf.c hn v);have HLe:=hhh (fun (u:World) (t:Own.Turn h h w u) m=>clength_any hi t.has hf.c hn true m);have HCo:=hhh (fun (u:World) (t:Own.Turn h h w u) pr m=>pcount_any hi t.has hf.c hn pr m);have HLo:=hhh (fun (u:World) (t:Own.Turn h h w u) g1 g2 g3 g4=>plong_any hi t.has x g1 g2 g3 g4);have HX0:=fun u=>ptext_any x u
 have HK:=hhh (fun u=>pcontainer_any x u);have HXd:isText x=false:=by unfold isText;simp;omega
 have HKd:isContainer x=((decide (128 <= N) && decide (N <= 159)) || (decide (220 <= N) && decide (N <= 223))):=by rw [hN];rfl
 rw [HXd] at HX0 HP0;have HX:=hhh HX0;have HKh:=hhh HKd;have hltI:(N:Int) < 256:=by omega
 have HNl:=hhh (show N < 256 by omega);have eA:bits .and .u8 (N:Int) 15=(N:Int) % 16:=bits_mask .u8 8 (by decide) wraps_u8 4 (by decide) (N:Int) (by omega) (by omega);have eB:bits .and .u8 (N:Int) 31=(N:Int) % 32:=bits_mask .u8 8 (by decide) wraps_u8 5 (by decide) (N:Int) (by omega) (by omega);obtain ⟨D,hD⟩:∃ D,D=255 - N:=⟨_,rfl⟩;have eX:bits .xor .u8 IntKind.u8.max (N:Int)=(D:Int):=by
  have:=u8_not ⟨N,by omega⟩;simp only at this;show bits .xor .u8 255 (N:Int)=(D:Int);rw [this];omega
 have eW:IntKind.u64.wrap (D:Int)=(D:Int):=by rw [IntKind.wrap_u64];omega
 rw [<- hD] at HP0;have HDl:=hhh (show D < 256 by omega);clear hD;have HPh:=hhh HP0;have HNb:=hhh (show 202 <= N /\ N <= 202 by omega);rw [<- hN];rw [<- hN] at HX HK HLo;generalize p.item x=O at HPh |-;generalize isContainer x=K at HKh HPh HK;clear hi hw hf HP0 hN hn HXd HKd hlo hhi HX0;clear eA eB eX eW hltI HNl;obtain rfl:N=202:=by have:=HNb.o;omega
 simp only [Int.cast_ofNat_Int] at HX HK HLo |-;go_enter Tryz.func212,Tryz.ntmps212;go_wp2_with (fail);refine HD.o.mono ?_;rintro e w1 ⟨rfl,rfl⟩
 cases hd:p.c.done
 case true =>
  have HP:=hhh (HPh.o.trans (if_pos (.inl hd)));clear HPh hd;go_wp2_with (fail);refine (HF0.o 2).mono ?_;rintro e w4 ⟨v,hv,h4,rfl,hs,i4,t4⟩;have HI4:=hhh i4;have HT4:=hhh t4;have HS4:=hhh hs;clear i4 t4 hs;go_wp2;go_ret;rw [HP.o];exact ⟨_,hv,h4,rfl,HS4.o,HI4.o,HT4.o⟩
 case false =>
  have HPd:=hhh (HPh.o.trans (if_neg (by rw [hd];first | (simp;done) | (have:=HNb.o;simp;omega))));clear HPh hd;go_wp2_with (fail);refine HA.o.mono ?_;rintro e w2 ⟨rfl,t2⟩;have T2:=hhh t2;clear t2
  cases hk:p.c.atKey
  ·have HPk:=hhh (HPd.o.trans (if_neg (by rw [hk];simp)))
   clear HPd hk HX;have HPl:=hhh (HPk.o.trans (if_neg (by first | (have:=HNb.o;omega) | trivial | (simp;done))));clear HPk;have HP:=hhh (HPl.o.trans (if_pos (by first | (have:=HNb.o;omega) | trivial | (simp;done))));clear HPl HNb;go_wp2_with (fail);refine (HF.o _ T2.o 6).mono ?_;rintro e w4 ⟨v,hv,h4,rfl,hs,i4,t4⟩;have HI4:=hhh i4;have HT4:=hhh t4;have HS4:=hhh hs;clear i4 t4 hs;go_wp2;go_ret;rw [HP.o];exact ⟨_,hv,h4,rfl,HS4.o,HI4.o,T2.o.trans HT4.o⟩
  ·go_wp2_with (fail)
   refine (HX.o _).mono ?_;rintro e w3 ⟨rfl,rfl⟩;have HP:=hhh (HPd.o.trans (if_pos (by rw [hk];simp)));clear HPd hk HX;go_wp2_with (fail);refine (HF.o _ T2.o 8).mono ?_;rintro e w4 ⟨v,hv,h4,rfl,hs,i4,t4⟩;have HI4:=hhh i4;have HT4:=hhh t4;have HS4:=hhh hs;clear i4 t4 hs;go_wp2;go_ret;rw [HP.o];exact ⟨_,hv,h4,rfl,HS4.o,HI4.o,T2.o.trans HT4.o⟩
end
end Pip
end
section
open Go.RowKit
open Json (Part)
namespace Pip
section
variable {p:Pin} {b:Nat} {h:Own.Heap} {w:World}
theorem pitem_203 {n : Nat} (hi : p.Is b h) (hw : Own.Has w h) (hf : p.Fits n) (hn : n ≤ 1000000) (x : UInt8) (hlo : 203 ≤ x.toNat) (hhi : x.toNat ≤ 203) :
  Calls Tryz.prog 212 #[.pointer (some ⟨b,0,none⟩),.int .u8 (x.toNat:Int)] w (PinDoes (p.item x) b h w):=by
 obtain ⟨N,hN⟩:∃ N,N=x.toNat:=⟨_,rfl⟩
 have HP0 : p.item x = if p.c.done = true ∨ N = 193 then p.on (p.c.fail 2) else if p.c.atKey = true ∧ isText x = false then p.on (p.c.fail 8) else if (199 ≤ N ∧ N ≤ 201) ∨ (212 ≤ N ∧ N ≤ 216) then p.on (p.c.fail 8)
   else if N=202 \/ N=203 then p.on (p.c.fail 6) else if isContainer x=true /\ p.c.full=true then p.on (p.c.fail 4) else if N < 128 then p.on (p.c.value (.whole false N)) else if 224 <= N then p.on (p.c.value (.whole true (255 - N)))
   else if N < 160 then p.count (decide (N < 144)) (N % 16) else if N < 192 then p.on (p.c.length true (N % 32)) else if N=192 then p.on (p.c.value .null) else if N <= 195 then p.on (p.c.value (.bool (decide (N=195)))) else p.long x:=by rw [hN];rfl
 have HF:=hhh (fun (u:World) (t:Own.Turn h h w u) e=>cfail_any hi t.has e);have HF0:=hhh (fun e=>cfail_any hi hw e);have HD:=hhh (cdone_any hi hw);have HA:=hhh (catkey_any hi hw hf.c);have HFu:=hhh (fun (u:World) (t:Own.Turn h h w u)=>cfull_any hi t.has);have HV:=hhh (fun (u:World) (t:Own.Turn h h w u) v=>cvalue_any hi t.has hf.c hn v);have HLe:=hhh (fun (u:World) (t:Own.Turn h h w u) m=>clength_any hi t.has hf.c hn true m);have HCo:=hhh (fun (u:World) (t:Own.Turn h h w u) pr m=>pcount_any hi t.has hf.c hn pr m);have HLo:=hhh (fun (u:World) (t:Own.Turn h h w u) g1 g2 g3 g4=>plong_any hi t.has x g1 g2 g3 g4);have HX0:=fun u=>ptext_any x u
 have HK:=hhh (fun u=>pcontainer_any x u);have HXd:isText x=false:=by unfold isText;simp;omega
 have HKd:isContainer x=((decide (128 <= N) && decide (N <= 159)) || (decide (220 <= N) && decide (N <= 223))):=by rw [hN];rfl
 rw [HXd] at HX0 HP0;have HX:=hhh HX0;have HKh:=hhh HKd;have hltI:(N:Int) < 256:=by omega
 have HNl:=hhh (show N < 256 by omega);have eA:bits .and .u8 (N:Int) 15=(N:Int) % 16:=bits_mask .u8 8 (by decide) wraps_u8 4 (by decide) (N:Int) (by omega) (by omega);have eB:bits .and .u8 (N:Int) 31=(N:Int) % 32:=bits_mask .u8 8 (by decide) wraps_u8 5 (by decide) (N:Int) (by omega) (by omega);obtain ⟨D,hD⟩:∃ D,D=255 - N:=⟨_,rfl⟩;have eX:bits .xor .u8 IntKind.u8.max (N:Int)=(D:Int):=by
  have:=u8_not ⟨N,by omega⟩;simp only at this;show bits .xor .u8 255 (N:Int)=(D:Int);rw [this];omega
 have eW:IntKind.u64.wrap (D:Int)=(D:Int):=by rw [IntKind.wrap_u64];omega
 rw [<- hD] at HP0;have HDl:=hhh (show D < 256 by omega);clear hD;have HPh:=hhh HP0;have HNb:=hhh (show 203 <= N /\ N <= 203 by omega);rw [<- hN];rw [<- hN] at HX HK HLo;generalize p.item x=O at HPh |-;generalize isContainer x=K at HKh HPh HK;clear hi hw hf HP0 hN hn HXd HKd hlo hhi HX0;clear eA eB eX eW hltI HNl;obtain rfl:N=203:=by have:=HNb.o;omega
 simp only [Int.cast_ofNat_Int] at HX HK HLo |-;go_enter Tryz.func212,Tryz.ntmps212;go_wp2_with (fail);refine HD.o.mono ?_;rintro e w1 ⟨rfl,rfl⟩
 cases hd:p.c.done
 case true =>
  have HP:=hhh (HPh.o.trans (if_pos (.inl hd)));clear HPh hd;go_wp2_with (fail);refine (HF0.o 2).mono ?_;rintro e w4 ⟨v,hv,h4,rfl,hs,i4,t4⟩;have HI4:=hhh i4;have HT4:=hhh t4;have HS4:=hhh hs;clear i4 t4 hs;go_wp2;go_ret;rw [HP.o];exact ⟨_,hv,h4,rfl,HS4.o,HI4.o,HT4.o⟩
 case false =>
  have HPd:=hhh (HPh.o.trans (if_neg (by rw [hd];first | (simp;done) | (have:=HNb.o;simp;omega))));clear HPh hd;go_wp2_with (fail);refine HA.o.mono ?_;rintro e w2 ⟨rfl,t2⟩;have T2:=hhh t2;clear t2
  cases hk:p.c.atKey
  ·have HPk:=hhh (HPd.o.trans (if_neg (by rw [hk];simp)))
   clear HPd hk HX;have HPl:=hhh (HPk.o.trans (if_neg (by first | (have:=HNb.o;omega) | trivial | (simp;done))));clear HPk;have HP:=hhh (HPl.o.trans (if_pos (by first | (have:=HNb.o;omega) | trivial | (simp;done))));clear HPl HNb;go_wp2_with (fail);refine (HF.o _ T2.o 6).mono ?_;rintro e w4 ⟨v,hv,h4,rfl,hs,i4,t4⟩;have HI4:=hhh i4;have HT4:=hhh t4;have HS4:=hhh hs;clear i4 t4 hs;go_wp2;go_ret;rw [HP.o];exact ⟨_,hv,h4,rfl,HS4.o,HI4.o,T2.o.trans HT4.o⟩
  ·go_wp2_with (fail)
   refine (HX.o _).mono ?_;rintro e w3 ⟨rfl,rfl⟩;have HP:=hhh (HPd.o.trans (if_pos (by rw [hk];simp)));clear HPd hk HX;go_wp2_with (fail);refine (HF.o _ T2.o 8).mono ?_;rintro e w4 ⟨v,hv,h4,rfl,hs,i4,t4⟩;have HI4:=hhh i4;have HT4:=hhh t4;have HS4:=hhh hs;clear i4 t4 hs;go_wp2;go_ret;rw [HP.o];exact ⟨_,hv,h4,rfl,HS4.o,HI4.o,T2.o.trans HT4.o⟩
theorem pitem_204 {n : Nat} (hi : p.Is b h) (hw : Own.Has w h) (hf : p.Fits n) (hn : n ≤ 1000000) (x : UInt8) (hlo : 204 ≤ x.toNat) (hhi : x.toNat ≤ 211) :
  Calls Tryz.prog 212 #[.pointer (some ⟨b,0,none⟩),.int .u8 (x.toNat:Int)] w (PinDoes (p.item x) b h w):=by
 obtain ⟨N,hN⟩:∃ N,N=x.toNat:=⟨_,rfl⟩
 have HP0 : p.item x = if p.c.done = true ∨ N = 193 then p.on (p.c.fail 2) else if p.c.atKey = true ∧ isText x = false then p.on (p.c.fail 8) else if (199 ≤ N ∧ N ≤ 201) ∨ (212 ≤ N ∧ N ≤ 216) then p.on (p.c.fail 8)
   else if N=202 \/ N=203 then p.on (p.c.fail 6) else if isContainer x=true /\ p.c.full=true then p.on (p.c.fail 4) else if N < 128 then p.on (p.c.value (.whole false N)) else if 224 <= N then p.on (p.c.value (.whole true (255 - N)))
   else if N < 160 then p.count (decide (N < 144)) (N % 16) else if N < 192 then p.on (p.c.length true (N % 32)) else if N=192 then p.on (p.c.value .null) else if N <= 195 then p.on (p.c.value (.bool (decide (N=195)))) else p.long x:=by rw [hN];rfl
 have HF:=hhh (fun (u:World) (t:Own.Turn h h w u) e=>cfail_any hi t.has e);have HF0:=hhh (fun e=>cfail_any hi hw e);have HD:=hhh (cdone_any hi hw);have HA:=hhh (catkey_any hi hw hf.c);have HFu:=hhh (fun (u:World) (t:Own.Turn h h w u)=>cfull_any hi t.has);have HV:=hhh (fun (u:World) (t:Own.Turn h h w u) v=>cvalue_any hi t.has hf.c hn v);have HLe:=hhh (fun (u:World) (t:Own.Turn h h w u) m=>clength_any hi t.has hf.c hn true m);have HCo:=hhh (fun (u:World) (t:Own.Turn h h w u) pr m=>pcount_any hi t.has hf.c hn pr m);have HLo:=hhh (fun (u:World) (t:Own.Turn h h w u) g1 g2 g3 g4=>plong_any hi t.has x g1 g2 g3 g4);have HX0:=fun u=>ptext_any x u
 have HK:=hhh (fun u=>pcontainer_any x u);have HXd:isText x=false:=by unfold isText;simp;omega
 have HKd:isContainer x=((decide (128 <= N) && decide (N <= 159)) || (decide (220 <= N) && decide (N <= 223))):=by rw [hN];rfl
 rw [HXd] at HX0 HP0;have HX:=hhh HX0;have HKh:=hhh HKd;have hltI:(N:Int) < 256:=by omega
 have HNl:=hhh (show N < 256 by omega);have eA:bits .and .u8 (N:Int) 15=(N:Int) % 16:=bits_mask .u8 8 (by decide) wraps_u8 4 (by decide) (N:Int) (by omega) (by omega);have eB:bits .and .u8 (N:Int) 31=(N:Int) % 32:=bits_mask .u8 8 (by decide) wraps_u8 5 (by decide) (N:Int) (by omega) (by omega);obtain ⟨D,hD⟩:∃ D,D=255 - N:=⟨_,rfl⟩;have eX:bits .xor .u8 IntKind.u8.max (N:Int)=(D:Int):=by
  have:=u8_not ⟨N,by omega⟩;simp only at this;show bits .xor .u8 255 (N:Int)=(D:Int);rw [this];omega
 have eW:IntKind.u64.wrap (D:Int)=(D:Int):=by rw [IntKind.wrap_u64];omega
 rw [<- hD] at HP0;have HDl:=hhh (show D < 256 by omega);clear hD;have HPh:=hhh HP0;have HNb:=hhh (show 204 <= N /\ N <= 211 by omega);rw [<- hN];rw [<- hN] at HX HK HLo;generalize p.item x=O at HPh |-;generalize isContainer x=K at HKh HPh HK;clear hi hw hf HP0 hN hn HXd HKd hlo hhi HX0;have q0:((N:Int) == 193)=false:=by rw [beq_eq_false_iff_ne];have:=HNb.o;omega
 go_enter Tryz.func212,Tryz.ntmps212;go_wp2_with (fail);refine HD.o.mono ?_;rintro e w1 ⟨rfl,rfl⟩
 cases hd:p.c.done
 case true =>
  have HP:=hhh (HPh.o.trans (if_pos (.inl hd)));clear HPh hd;go_wp2_with (fail);refine (HF0.o 2).mono ?_;rintro e w4 ⟨v,hv,h4,rfl,hs,i4,t4⟩;have HI4:=hhh i4;have HT4:=hhh t4;have HS4:=hhh hs;clear i4 t4 hs;go_wp2;go_ret;rw [HP.o];exact ⟨_,hv,h4,rfl,HS4.o,HI4.o,HT4.o⟩
 case false =>
  have HPd:=hhh (HPh.o.trans (if_neg (by rw [hd];first | (simp;done) | (have:=HNb.o;simp;omega))));clear HPh hd;go_wp2_with (fail);refine HA.o.mono ?_;rintro e w2 ⟨rfl,t2⟩;have T2:=hhh t2;clear t2
  cases hk:p.c.atKey
  ·have HPk:=hhh (HPd.o.trans (if_neg (by rw [hk];simp)))
   clear HPd hk HX;have a1:(199:Int) <= (N:Int):=by have:=HNb.o;omega
   have a2:¬ (N:Int) <= 201:=by have:=HNb.o;omega
   have a3:¬ (212:Int) <= (N:Int):=by have:=HNb.o;omega
   have a5:((N:Int) == 202)=false:=by rw [beq_eq_false_iff_ne];have:=HNb.o;omega
   have a6:((N:Int) == 203)=false:=by rw [beq_eq_false_iff_ne];have:=HNb.o;omega
   have a7:¬ (N:Int) < 128:=by have:=HNb.o;omega
   have a8:¬ (224:Int) <= (N:Int):=by have:=HNb.o;omega
   have a9:¬ (N:Int) < 160:=by have:=HNb.o;omega
   have b2:¬ (N:Int) < 192:=by have:=HNb.o;omega
   have b3:((N:Int) == 192)=false:=by rw [beq_eq_false_iff_ne];have:=HNb.o;omega
   have b4:¬ (N:Int) <= 195:=by have:=HNb.o;omega
   have b5:((N:Int) == 195)=false:=by rw [beq_eq_false_iff_ne];have:=HNb.o;omega
   have HPl:=hhh (HPk.o.trans (if_neg (by first | (have:=HNb.o;omega) | trivial | (simp;done))));clear HPk;have HPm:=hhh (HPl.o.trans (if_neg (by first | (have:=HNb.o;omega) | trivial | (simp;done))));clear HPl;have hK:K=false:=by rw [HKh.o];have:=HNb.o;first | (simp;done) | (simp;omega)
   rw [hK] at HK HPm;clear hK HKh;go_wp2_with (fail);refine (HK.o _).mono ?_;rintro e w3 ⟨rfl,rfl⟩;have HPn:=hhh (HPm.o.trans (if_neg (by simp)));clear HPm;have HC2:=hhh (HLo.o _ T2.o (by first | (have:=HNb.o;omega) | trivial | (simp;done)) (by first | (have:=HNb.o;omega) | trivial | (simp;done)) (by first | (have:=HNb.o;omega) | trivial | (simp;done)) (by first | (have:=HNb.o;omega) | trivial | (simp;done)));have HP:=hhh ((((((HPn.o.trans (if_neg (by first | (have:=HNb.o;omega) | trivial | (simp;done)))).trans (if_neg (by first | (have:=HNb.o;omega) | trivial | (simp;done)))).trans (if_neg (by first | (have:=HNb.o;omega) | trivial | (simp;done)))).trans (if_neg (by first | (have:=HNb.o;omega) | trivial | (simp;done)))).trans (if_neg (by first | (have:=HNb.o;omega) | trivial | (simp;done)))).trans (if_neg (by first | (have:=HNb.o;omega) | trivial | (simp;done))));clear HPn HNb;go_wp2_with (fail);refine (HC2.o).mono ?_;rintro e w4 ⟨v,hv,h4,rfl,hs,i4,t4⟩;have HI4:=hhh i4;have HT4:=hhh t4;have HS4:=hhh hs;clear i4 t4 hs;go_wp2;go_ret;rw [HP.o];exact ⟨_,hv,h4,rfl,HS4.o,HI4.o,T2.o.trans HT4.o⟩
  ·go_wp2_with (fail)
   refine (HX.o _).mono ?_;rintro e w3 ⟨rfl,rfl⟩;have HP:=hhh (HPd.o.trans (if_pos (by rw [hk];simp)));clear HPd hk HX;go_wp2_with (fail);refine (HF.o _ T2.o 8).mono ?_;rintro e w4 ⟨v,hv,h4,rfl,hs,i4,t4⟩;have HI4:=hhh i4;have HT4:=hhh t4;have HS4:=hhh hs;clear i4 t4 hs;go_wp2;go_ret;rw [HP.o];exact ⟨_,hv,h4,rfl,HS4.o,HI4.o,T2.o.trans HT4.o⟩
theorem pitem_212 {n : Nat} (hi : p.Is b h) (hw : Own.Has w h) (hf : p.Fits n) (hn : n ≤ 1000000) (x : UInt8) (hlo : 212 ≤ x.toNat) (hhi : x.toNat ≤ 216) :
  Calls Tryz.prog 212 #[.pointer (some ⟨b,0,none⟩),.int .u8 (x.toNat:Int)] w (PinDoes (p.item x) b h w):=by
 obtain ⟨N,hN⟩:∃ N,N=x.toNat:=⟨_,rfl⟩
 have HP0 : p.item x = if p.c.done = true ∨ N = 193 then p.on (p.c.fail 2) else if p.c.atKey = true ∧ isText x = false then p.on (p.c.fail 8) else if (199 ≤ N ∧ N ≤ 201) ∨ (212 ≤ N ∧ N ≤ 216) then p.on (p.c.fail 8)
   else if N=202 \/ N=203 then p.on (p.c.fail 6) else if isContainer x=true /\ p.c.full=true then p.on (p.c.fail 4) else if N < 128 then p.on (p.c.value (.whole false N)) else if 224 <= N then p.on (p.c.value (.whole true (255 - N)))
   else if N < 160 then p.count (decide (N < 144)) (N % 16) else if N < 192 then p.on (p.c.length true (N % 32)) else if N=192 then p.on (p.c.value .null) else if N <= 195 then p.on (p.c.value (.bool (decide (N=195)))) else p.long x:=by rw [hN];rfl
 have HF:=hhh (fun (u:World) (t:Own.Turn h h w u) e=>cfail_any hi t.has e);have HF0:=hhh (fun e=>cfail_any hi hw e);have HD:=hhh (cdone_any hi hw);have HA:=hhh (catkey_any hi hw hf.c);have HFu:=hhh (fun (u:World) (t:Own.Turn h h w u)=>cfull_any hi t.has);have HV:=hhh (fun (u:World) (t:Own.Turn h h w u) v=>cvalue_any hi t.has hf.c hn v);have HLe:=hhh (fun (u:World) (t:Own.Turn h h w u) m=>clength_any hi t.has hf.c hn true m);have HCo:=hhh (fun (u:World) (t:Own.Turn h h w u) pr m=>pcount_any hi t.has hf.c hn pr m);have HLo:=hhh (fun (u:World) (t:Own.Turn h h w u) g1 g2 g3 g4=>plong_any hi t.has x g1 g2 g3 g4);have HX0:=fun u=>ptext_any x u
 have HK:=hhh (fun u=>pcontainer_any x u);have HXd:isText x=false:=by unfold isText;simp;omega
 have HKd:isContainer x=((decide (128 <= N) && decide (N <= 159)) || (decide (220 <= N) && decide (N <= 223))):=by rw [hN];rfl
 rw [HXd] at HX0 HP0;have HX:=hhh HX0;have HKh:=hhh HKd;have hltI:(N:Int) < 256:=by omega
 have HNl:=hhh (show N < 256 by omega);have eA:bits .and .u8 (N:Int) 15=(N:Int) % 16:=bits_mask .u8 8 (by decide) wraps_u8 4 (by decide) (N:Int) (by omega) (by omega);have eB:bits .and .u8 (N:Int) 31=(N:Int) % 32:=bits_mask .u8 8 (by decide) wraps_u8 5 (by decide) (N:Int) (by omega) (by omega);obtain ⟨D,hD⟩:∃ D,D=255 - N:=⟨_,rfl⟩;have eX:bits .xor .u8 IntKind.u8.max (N:Int)=(D:Int):=by
  have:=u8_not ⟨N,by omega⟩;simp only at this;show bits .xor .u8 255 (N:Int)=(D:Int);rw [this];omega
 have eW:IntKind.u64.wrap (D:Int)=(D:Int):=by rw [IntKind.wrap_u64];omega
 rw [<- hD] at HP0;have HDl:=hhh (show D < 256 by omega);clear hD;have HPh:=hhh HP0;have HNb:=hhh (show 212 <= N /\ N <= 216 by omega);rw [<- hN];rw [<- hN] at HX HK HLo;generalize p.item x=O at HPh |-;generalize isContainer x=K at HKh HPh HK;clear hi hw hf HP0 hN hn HXd HKd hlo hhi HX0;have q0:((N:Int) == 193)=false:=by rw [beq_eq_false_iff_ne];have:=HNb.o;omega
 go_enter Tryz.func212,Tryz.ntmps212;go_wp2_with (fail);refine HD.o.mono ?_;rintro e w1 ⟨rfl,rfl⟩
 cases hd:p.c.done
 case true =>
  have HP:=hhh (HPh.o.trans (if_pos (.inl hd)));clear HPh hd;go_wp2_with (fail);refine (HF0.o 2).mono ?_;rintro e w4 ⟨v,hv,h4,rfl,hs,i4,t4⟩;have HI4:=hhh i4;have HT4:=hhh t4;have HS4:=hhh hs;clear i4 t4 hs;go_wp2;go_ret;rw [HP.o];exact ⟨_,hv,h4,rfl,HS4.o,HI4.o,HT4.o⟩
 case false =>
  have HPd:=hhh (HPh.o.trans (if_neg (by rw [hd];first | (simp;done) | (have:=HNb.o;simp;omega))));clear HPh hd;go_wp2_with (fail);refine HA.o.mono ?_;rintro e w2 ⟨rfl,t2⟩;have T2:=hhh t2;clear t2
  cases hk:p.c.atKey
  ·have HPk:=hhh (HPd.o.trans (if_neg (by rw [hk];simp)))
   clear HPd hk HX;have a1:(199:Int) <= (N:Int):=by have:=HNb.o;omega
   have a2:¬ (N:Int) <= 201:=by have:=HNb.o;omega
   have a3:(212:Int) <= (N:Int):=by have:=HNb.o;omega
   have a4:(N:Int) <= 216:=by have:=HNb.o;omega
   have HP:=hhh (HPk.o.trans (if_pos (by first | (have:=HNb.o;omega) | trivial | (simp;done))));clear HPk HNb;go_wp2_with (fail);refine (HF.o _ T2.o 8).mono ?_;rintro e w4 ⟨v,hv,h4,rfl,hs,i4,t4⟩;have HI4:=hhh i4;have HT4:=hhh t4;have HS4:=hhh hs;clear i4 t4 hs;go_wp2;go_ret;rw [HP.o];exact ⟨_,hv,h4,rfl,HS4.o,HI4.o,T2.o.trans HT4.o⟩
  ·go_wp2_with (fail)
   refine (HX.o _).mono ?_;rintro e w3 ⟨rfl,rfl⟩;have HP:=hhh (HPd.o.trans (if_pos (by rw [hk];simp)));clear HPd hk HX;go_wp2_with (fail);refine (HF.o _ T2.o 8).mono ?_;rintro e w4 ⟨v,hv,h4,rfl,hs,i4,t4⟩;have HI4:=hhh i4;have HT4:=hhh t4;have HS4:=hhh hs;clear i4 t4 hs;go_wp2;go_ret;rw [HP.o];exact ⟨_,hv,h4,rfl,HS4.o,HI4.o,T2.o.trans HT4.o⟩
theorem pitem_217 {n : Nat} (hi : p.Is b h) (hw : Own.Has w h) (hf : p.Fits n) (hn : n ≤ 1000000) (x : UInt8) (hlo : 217 ≤ x.toNat) (hhi : x.toNat ≤ 219) :
  Calls Tryz.prog 212 #[.pointer (some ⟨b,0,none⟩),.int .u8 (x.toNat:Int)] w (PinDoes (p.item x) b h w):=by
 obtain ⟨N,hN⟩:∃ N,N=x.toNat:=⟨_,rfl⟩
 have HP0 : p.item x = if p.c.done = true ∨ N = 193 then p.on (p.c.fail 2) else if p.c.atKey = true ∧ isText x = false then p.on (p.c.fail 8) else if (199 ≤ N ∧ N ≤ 201) ∨ (212 ≤ N ∧ N ≤ 216) then p.on (p.c.fail 8)
   else if N=202 \/ N=203 then p.on (p.c.fail 6) else if isContainer x=true /\ p.c.full=true then p.on (p.c.fail 4) else if N < 128 then p.on (p.c.value (.whole false N)) else if 224 <= N then p.on (p.c.value (.whole true (255 - N)))
   else if N < 160 then p.count (decide (N < 144)) (N % 16) else if N < 192 then p.on (p.c.length true (N % 32)) else if N=192 then p.on (p.c.value .null) else if N <= 195 then p.on (p.c.value (.bool (decide (N=195)))) else p.long x:=by rw [hN];rfl
 have HF:=hhh (fun (u:World) (t:Own.Turn h h w u) e=>cfail_any hi t.has e);have HF0:=hhh (fun e=>cfail_any hi hw e);have HD:=hhh (cdone_any hi hw);have HA:=hhh (catkey_any hi hw hf.c);have HFu:=hhh (fun (u:World) (t:Own.Turn h h w u)=>cfull_any hi t.has);have HV:=hhh (fun (u:World) (t:Own.Turn h h w u) v=>cvalue_any hi t.has hf.c hn v);have HLe:=hhh (fun (u:World) (t:Own.Turn h h w u) m=>clength_any hi t.has hf.c hn true m);have HCo:=hhh (fun (u:World) (t:Own.Turn h h w u) pr m=>pcount_any hi t.has hf.c hn pr m);have HLo:=hhh (fun (u:World) (t:Own.Turn h h w u) g1 g2 g3 g4=>plong_any hi t.has x g1 g2 g3 g4);have HX0:=fun u=>ptext_any x u
 have HK:=hhh (fun u=>pcontainer_any x u);have HXd:isText x=true:=by unfold isText;simp;omega
 have HKd:isContainer x=((decide (128 <= N) && decide (N <= 159)) || (decide (220 <= N) && decide (N <= 223))):=by rw [hN];rfl
 rw [HXd] at HX0 HP0;have HX:=hhh HX0;have HKh:=hhh HKd;have hltI:(N:Int) < 256:=by omega
 have HNl:=hhh (show N < 256 by omega);have eA:bits .and .u8 (N:Int) 15=(N:Int) % 16:=bits_mask .u8 8 (by decide) wraps_u8 4 (by decide) (N:Int) (by omega) (by omega);have eB:bits .and .u8 (N:Int) 31=(N:Int) % 32:=bits_mask .u8 8 (by decide) wraps_u8 5 (by decide) (N:Int) (by omega) (by omega);obtain ⟨D,hD⟩:∃ D,D=255 - N:=⟨_,rfl⟩;have eX:bits .xor .u8 IntKind.u8.max (N:Int)=(D:Int):=by
  have:=u8_not ⟨N,by omega⟩;simp only at this;show bits .xor .u8 255 (N:Int)=(D:Int);rw [this];omega
 have eW:IntKind.u64.wrap (D:Int)=(D:Int):=by rw [IntKind.wrap_u64];omega
 rw [<- hD] at HP0;have HDl:=hhh (show D < 256 by omega);clear hD;have HPh:=hhh HP0;have HNb:=hhh (show 217 <= N /\ N <= 219 by omega);rw [<- hN];rw [<- hN] at HX HK HLo;generalize p.item x=O at HPh |-;generalize isContainer x=K at HKh HPh HK;clear hi hw hf HP0 hN hn HXd HKd hlo hhi HX0;have q0:((N:Int) == 193)=false:=by rw [beq_eq_false_iff_ne];have:=HNb.o;omega
 go_enter Tryz.func212,Tryz.ntmps212;go_wp2_with (fail);refine HD.o.mono ?_;rintro e w1 ⟨rfl,rfl⟩
 cases hd:p.c.done
 case true =>
  have HP:=hhh (HPh.o.trans (if_pos (.inl hd)));clear HPh hd;go_wp2_with (fail);refine (HF0.o 2).mono ?_;rintro e w4 ⟨v,hv,h4,rfl,hs,i4,t4⟩;have HI4:=hhh i4;have HT4:=hhh t4;have HS4:=hhh hs;clear i4 t4 hs;go_wp2;go_ret;rw [HP.o];exact ⟨_,hv,h4,rfl,HS4.o,HI4.o,HT4.o⟩
 case false =>
  have HPd:=hhh (HPh.o.trans (if_neg (by rw [hd];first | (simp;done) | (have:=HNb.o;simp;omega))));clear HPh hd;go_wp2_with (fail);refine HA.o.mono ?_;rintro e w2 ⟨rfl,t2⟩;have T2:=hhh t2;clear t2
  cases hk:p.c.atKey
  ·have HPk:=hhh (HPd.o.trans (if_neg (by rw [hk];simp)))
   clear HPd hk HX;have a1:(199:Int) <= (N:Int):=by have:=HNb.o;omega
   have a2:¬ (N:Int) <= 201:=by have:=HNb.o;omega
   have a3:(212:Int) <= (N:Int):=by have:=HNb.o;omega
   have a4:¬ (N:Int) <= 216:=by have:=HNb.o;omega
   have a5:((N:Int) == 202)=false:=by rw [beq_eq_false_iff_ne];have:=HNb.o;omega
   have a6:((N:Int) == 203)=false:=by rw [beq_eq_false_iff_ne];have:=HNb.o;omega
   have a7:¬ (N:Int) < 128:=by have:=HNb.o;omega
   have a8:¬ (224:Int) <= (N:Int):=by have:=HNb.o;omega
   have a9:¬ (N:Int) < 160:=by have:=HNb.o;omega
   have b2:¬ (N:Int) < 192:=by have:=HNb.o;omega
   have b3:((N:Int) == 192)=false:=by rw [beq_eq_false_iff_ne];have:=HNb.o;omega
   have b4:¬ (N:Int) <= 195:=by have:=HNb.o;omega
   have b5:((N:Int) == 195)=false:=by rw [beq_eq_false_iff_ne];have:=HNb.o;omega
   have HPl:=hhh (HPk.o.trans (if_neg (by first | (have:=HNb.o;omega) | trivial | (simp;done))));clear HPk;have HPm:=hhh (HPl.o.trans (if_neg (by first | (have:=HNb.o;omega) | trivial | (simp;done))));clear HPl;have hK:K=false:=by rw [HKh.o];have:=HNb.o;first | (simp;done) | (simp;omega)
   rw [hK] at HK HPm;clear hK HKh;go_wp2_with (fail);refine (HK.o _).mono ?_;rintro e w3 ⟨rfl,rfl⟩;have HPn:=hhh (HPm.o.trans (if_neg (by simp)));clear HPm;have HC2:=hhh (HLo.o _ T2.o (by first | (have:=HNb.o;omega) | trivial | (simp;done)) (by first | (have:=HNb.o;omega) | trivial | (simp;done)) (by first | (have:=HNb.o;omega) | trivial | (simp;done)) (by first | (have:=HNb.o;omega) | trivial | (simp;done)));have HP:=hhh ((((((HPn.o.trans (if_neg (by first | (have:=HNb.o;omega) | trivial | (simp;done)))).trans (if_neg (by first | (have:=HNb.o;omega) | trivial | (simp;done)))).trans (if_neg (by first | (have:=HNb.o;omega) | trivial | (simp;done)))).trans (if_neg (by first | (have:=HNb.o;omega) | trivial | (simp;done)))).trans (if_neg (by first | (have:=HNb.o;omega) | trivial | (simp;done)))).trans (if_neg (by first | (have:=HNb.o;omega) | trivial | (simp;done))));clear HPn HNb;go_wp2_with (fail);refine (HC2.o).mono ?_;rintro e w4 ⟨v,hv,h4,rfl,hs,i4,t4⟩;have HI4:=hhh i4;have HT4:=hhh t4;have HS4:=hhh hs;clear i4 t4 hs;go_wp2;go_ret;rw [HP.o];exact ⟨_,hv,h4,rfl,HS4.o,HI4.o,T2.o.trans HT4.o⟩
  ·go_wp2_with (fail)
   refine (HX.o _).mono ?_;rintro e w3 ⟨rfl,rfl⟩;have HPk:=hhh (HPd.o.trans (if_neg (by simp)));clear HPd hk HX;have a1:(199:Int) <= (N:Int):=by have:=HNb.o;omega
   have a2:¬ (N:Int) <= 201:=by have:=HNb.o;omega
   have a3:(212:Int) <= (N:Int):=by have:=HNb.o;omega
   have a4:¬ (N:Int) <= 216:=by have:=HNb.o;omega
   have a5:((N:Int) == 202)=false:=by rw [beq_eq_false_iff_ne];have:=HNb.o;omega
   have a6:((N:Int) == 203)=false:=by rw [beq_eq_false_iff_ne];have:=HNb.o;omega
   have a7:¬ (N:Int) < 128:=by have:=HNb.o;omega
   have a8:¬ (224:Int) <= (N:Int):=by have:=HNb.o;omega
   have a9:¬ (N:Int) < 160:=by have:=HNb.o;omega
   have b2:¬ (N:Int) < 192:=by have:=HNb.o;omega
   have b3:((N:Int) == 192)=false:=by rw [beq_eq_false_iff_ne];have:=HNb.o;omega
   have b4:¬ (N:Int) <= 195:=by have:=HNb.o;omega
   have b5:((N:Int) == 195)=false:=by rw [beq_eq_false_iff_ne];have:=HNb.o;omega
   have HPl:=hhh (HPk.o.trans (if_neg (by first | (have:=HNb.o;omega) | trivial | (simp;done))));clear HPk;have HPm:=hhh (HPl.o.trans (if_neg (by first | (have:=HNb.o;omega) | trivial | (simp;done))));clear HPl;have hK:K=false:=by rw [HKh.o];have:=HNb.o;first | (simp;done) | (simp;omega)
   rw [hK] at HK HPm;clear hK HKh;go_wp2_with (fail);refine (HK.o _).mono ?_;rintro e w3 ⟨rfl,rfl⟩;have HPn:=hhh (HPm.o.trans (if_neg (by simp)));clear HPm;have HC2:=hhh (HLo.o _ T2.o (by first | (have:=HNb.o;omega) | trivial | (simp;done)) (by first | (have:=HNb.o;omega) | trivial | (simp;done)) (by first | (have:=HNb.o;omega) | trivial | (simp;done)) (by first | (have:=HNb.o;omega) | trivial | (simp;done)));have HP:=hhh ((((((HPn.o.trans (if_neg (by first | (have:=HNb.o;omega) | trivial | (simp;done)))).trans (if_neg (by first | (have:=HNb.o;omega) | trivial | (simp;done)))).trans (if_neg (by first | (have:=HNb.o;omega) | trivial | (simp;done)))).trans (if_neg (by first | (have:=HNb.o;omega) | trivial | (simp;done)))).trans (if_neg (by first | (have:=HNb.o;omega) | trivial | (simp;done)))).trans (if_neg (by first | (have:=HNb.o;omega) | trivial | (simp;done))));clear HPn HNb;go_wp2_with (fail);refine (HC2.o).mono ?_;rintro e w4 ⟨v,hv,h4,rfl,hs,i4,t4⟩;have HI4:=hhh i4;have HT4:=hhh t4;have HS4:=hhh hs;clear i4 t4 hs;go_wp2;go_ret;rw [HP.o];exact ⟨_,hv,h4,rfl,HS4.o,HI4.o,T2.o.trans HT4.o⟩
theorem pitem_220 {n : Nat} (hi : p.Is b h) (hw : Own.Has w h) (hf : p.Fits n) (hn : n ≤ 1000000) (x : UInt8) (hlo : 220 ≤ x.toNat) (hhi : x.toNat ≤ 223) :
  Calls Tryz.prog 212 #[.pointer (some ⟨b,0,none⟩),.int .u8 (x.toNat:Int)] w (PinDoes (p.item x) b h w):=by
 obtain ⟨N,hN⟩:∃ N,N=x.toNat:=⟨_,rfl⟩
 have HP0 : p.item x = if p.c.done = true ∨ N = 193 then p.on (p.c.fail 2) else if p.c.atKey = true ∧ isText x = false then p.on (p.c.fail 8) else if (199 ≤ N ∧ N ≤ 201) ∨ (212 ≤ N ∧ N ≤ 216) then p.on (p.c.fail 8)
   else if N=202 \/ N=203 then p.on (p.c.fail 6) else if isContainer x=true /\ p.c.full=true then p.on (p.c.fail 4) else if N < 128 then p.on (p.c.value (.whole false N)) else if 224 <= N then p.on (p.c.value (.whole true (255 - N)))
   else if N < 160 then p.count (decide (N < 144)) (N % 16) else if N < 192 then p.on (p.c.length true (N % 32)) else if N=192 then p.on (p.c.value .null) else if N <= 195 then p.on (p.c.value (.bool (decide (N=195)))) else p.long x:=by rw [hN];rfl
 have HF:=hhh (fun (u:World) (t:Own.Turn h h w u) e=>cfail_any hi t.has e);have HF0:=hhh (fun e=>cfail_any hi hw e);have HD:=hhh (cdone_any hi hw);have HA:=hhh (catkey_any hi hw hf.c);have HFu:=hhh (fun (u:World) (t:Own.Turn h h w u)=>cfull_any hi t.has);have HV:=hhh (fun (u:World) (t:Own.Turn h h w u) v=>cvalue_any hi t.has hf.c hn v);have HLe:=hhh (fun (u:World) (t:Own.Turn h h w u) m=>clength_any hi t.has hf.c hn true m);have HCo:=hhh (fun (u:World) (t:Own.Turn h h w u) pr m=>pcount_any hi t.has hf.c hn pr m);have HLo:=hhh (fun (u:World) (t:Own.Turn h h w u) g1 g2 g3 g4=>plong_any hi t.has x g1 g2 g3 g4);have HX0:=fun u=>ptext_any x u
 have HK:=hhh (fun u=>pcontainer_any x u);have HXd:isText x=false:=by unfold isText;simp;omega
 have HKd:isContainer x=((decide (128 <= N) && decide (N <= 159)) || (decide (220 <= N) && decide (N <= 223))):=by rw [hN];rfl
 rw [HXd] at HX0 HP0;have HX:=hhh HX0;have HKh:=hhh HKd;have hltI:(N:Int) < 256:=by omega
 have HNl:=hhh (show N < 256 by omega);have eA:bits .and .u8 (N:Int) 15=(N:Int) % 16:=bits_mask .u8 8 (by decide) wraps_u8 4 (by decide) (N:Int) (by omega) (by omega);have eB:bits .and .u8 (N:Int) 31=(N:Int) % 32:=bits_mask .u8 8 (by decide) wraps_u8 5 (by decide) (N:Int) (by omega) (by omega);obtain ⟨D,hD⟩:∃ D,D=255 - N:=⟨_,rfl⟩;have eX:bits .xor .u8 IntKind.u8.max (N:Int)=(D:Int):=by
  have:=u8_not ⟨N,by omega⟩;simp only at this;show bits .xor .u8 255 (N:Int)=(D:Int);rw [this];omega
 have eW:IntKind.u64.wrap (D:Int)=(D:Int):=by rw [IntKind.wrap_u64];omega
 rw [<- hD] at HP0;have HDl:=hhh (show D < 256 by omega);clear hD;have HPh:=hhh HP0;have HNb:=hhh (show 220 <= N /\ N <= 223 by omega);rw [<- hN];rw [<- hN] at HX HK HLo;generalize p.item x=O at HPh |-;generalize isContainer x=K at HKh HPh HK;clear hi hw hf HP0 hN hn HXd HKd hlo hhi HX0;have q0:((N:Int) == 193)=false:=by rw [beq_eq_false_iff_ne];have:=HNb.o;omega
 go_enter Tryz.func212,Tryz.ntmps212;go_wp2_with (fail);refine HD.o.mono ?_;rintro e w1 ⟨rfl,rfl⟩
 cases hd:p.c.done
 case true =>
  have HP:=hhh (HPh.o.trans (if_pos (.inl hd)));clear HPh hd;go_wp2_with (fail);refine (HF0.o 2).mono ?_;rintro e w4 ⟨v,hv,h4,rfl,hs,i4,t4⟩;have HI4:=hhh i4;have HT4:=hhh t4;have HS4:=hhh hs;clear i4 t4 hs;go_wp2;go_ret;rw [HP.o];exact ⟨_,hv,h4,rfl,HS4.o,HI4.o,HT4.o⟩
 case false =>
  have HPd:=hhh (HPh.o.trans (if_neg (by rw [hd];first | (simp;done) | (have:=HNb.o;simp;omega))));clear HPh hd;go_wp2_with (fail);refine HA.o.mono ?_;rintro e w2 ⟨rfl,t2⟩;have T2:=hhh t2;clear t2
  cases hk:p.c.atKey
  ·have HPk:=hhh (HPd.o.trans (if_neg (by rw [hk];simp)))
   clear HPd hk HX;have a1:(199:Int) <= (N:Int):=by have:=HNb.o;omega
   have a2:¬ (N:Int) <= 201:=by have:=HNb.o;omega
   have a3:(212:Int) <= (N:Int):=by have:=HNb.o;omega
   have a4:¬ (N:Int) <= 216:=by have:=HNb.o;omega
   have a5:((N:Int) == 202)=false:=by rw [beq_eq_false_iff_ne];have:=HNb.o;omega
   have a6:((N:Int) == 203)=false:=by rw [beq_eq_false_iff_ne];have:=HNb.o;omega
   have a7:¬ (N:Int) < 128:=by have:=HNb.o;omega
   have a8:¬ (224:Int) <= (N:Int):=by have:=HNb.o;omega
   have a9:¬ (N:Int) < 160:=by have:=HNb.o;omega
   have b2:¬ (N:Int) < 192:=by have:=HNb.o;omega
   have b3:((N:Int) == 192)=false:=by rw [beq_eq_false_iff_ne];have:=HNb.o;omega
   have b4:¬ (N:Int) <= 195:=by have:=HNb.o;omega
   have b5:((N:Int) == 195)=false:=by rw [beq_eq_false_iff_ne];have:=HNb.o;omega
   have HPl:=hhh (HPk.o.trans (if_neg (by first | (have:=HNb.o;omega) | trivial | (simp;done))));clear HPk;have HPm:=hhh (HPl.o.trans (if_neg (by first | (have:=HNb.o;omega) | trivial | (simp;done))));clear HPl;have hK:K=true:=by rw [HKh.o];have:=HNb.o;first | (simp;done) | (simp;omega)
   rw [hK] at HK HPm;clear hK HKh;go_wp2_with (fail);refine (HK.o _).mono ?_;rintro e w3 ⟨rfl,rfl⟩;go_wp2_with (fail);refine (HFu.o _ T2.o).mono ?_;rintro e w5 ⟨rfl,t5⟩;have T5:=hhh (T2.o.trans t5);clear t5
   cases hu:p.c.full
   ·have HPn:=hhh (HPm.o.trans (if_neg (by rw [hu];simp)))
    clear HPm hu;have HC2:=hhh (HLo.o _ T5.o (by first | (have:=HNb.o;omega) | trivial | (simp;done)) (by first | (have:=HNb.o;omega) | trivial | (simp;done)) (by first | (have:=HNb.o;omega) | trivial | (simp;done)) (by first | (have:=HNb.o;omega) | trivial | (simp;done)));have HP:=hhh ((((((HPn.o.trans (if_neg (by first | (have:=HNb.o;omega) | trivial | (simp;done)))).trans (if_neg (by first | (have:=HNb.o;omega) | trivial | (simp;done)))).trans (if_neg (by first | (have:=HNb.o;omega) | trivial | (simp;done)))).trans (if_neg (by first | (have:=HNb.o;omega) | trivial | (simp;done)))).trans (if_neg (by first | (have:=HNb.o;omega) | trivial | (simp;done)))).trans (if_neg (by first | (have:=HNb.o;omega) | trivial | (simp;done))));clear HPn HNb;go_wp2_with (fail);refine (HC2.o).mono ?_;rintro e w4 ⟨v,hv,h4,rfl,hs,i4,t4⟩;have HI4:=hhh i4;have HT4:=hhh t4;have HS4:=hhh hs;clear i4 t4 hs;go_wp2;go_ret;rw [HP.o];exact ⟨_,hv,h4,rfl,HS4.o,HI4.o,T5.o.trans HT4.o⟩
   ·have HP:=hhh (HPm.o.trans (if_pos (by rw [hu];simp)))
    clear HPm hu HNb;go_wp2_with (fail);refine (HF.o _ T5.o 4).mono ?_;rintro e w4 ⟨v,hv,h4,rfl,hs,i4,t4⟩;have HI4:=hhh i4;have HT4:=hhh t4;have HS4:=hhh hs;clear i4 t4 hs;go_wp2;go_ret;rw [HP.o];exact ⟨_,hv,h4,rfl,HS4.o,HI4.o,T5.o.trans HT4.o⟩
  ·go_wp2_with (fail)
   refine (HX.o _).mono ?_;rintro e w3 ⟨rfl,rfl⟩;have HP:=hhh (HPd.o.trans (if_pos (by rw [hk];simp)));clear HPd hk HX;go_wp2_with (fail);refine (HF.o _ T2.o 8).mono ?_;rintro e w4 ⟨v,hv,h4,rfl,hs,i4,t4⟩;have HI4:=hhh i4;have HT4:=hhh t4;have HS4:=hhh hs;clear i4 t4 hs;go_wp2;go_ret;rw [HP.o];exact ⟨_,hv,h4,rfl,HS4.o,HI4.o,T2.o.trans HT4.o⟩
theorem pitem_224 {n : Nat} (hi : p.Is b h) (hw : Own.Has w h) (hf : p.Fits n) (hn : n ≤ 1000000) (x : UInt8) (hlo : 224 ≤ x.toNat) (hhi : x.toNat ≤ 255) :
  Calls Tryz.prog 212 #[.pointer (some ⟨b,0,none⟩),.int .u8 (x.toNat:Int)] w (PinDoes (p.item x) b h w):=by
 obtain ⟨N,hN⟩:∃ N,N=x.toNat:=⟨_,rfl⟩
 have HP0 : p.item x = if p.c.done = true ∨ N = 193 then p.on (p.c.fail 2) else if p.c.atKey = true ∧ isText x = false then p.on (p.c.fail 8) else if (199 ≤ N ∧ N ≤ 201) ∨ (212 ≤ N ∧ N ≤ 216) then p.on (p.c.fail 8)
   else if N=202 \/ N=203 then p.on (p.c.fail 6) else if isContainer x=true /\ p.c.full=true then p.on (p.c.fail 4) else if N < 128 then p.on (p.c.value (.whole false N)) else if 224 <= N then p.on (p.c.value (.whole true (255 - N)))
   else if N < 160 then p.count (decide (N < 144)) (N % 16) else if N < 192 then p.on (p.c.length true (N % 32)) else if N=192 then p.on (p.c.value .null) else if N <= 195 then p.on (p.c.value (.bool (decide (N=195)))) else p.long x:=by rw [hN];rfl
 have HF:=hhh (fun (u:World) (t:Own.Turn h h w u) e=>cfail_any hi t.has e);have HF0:=hhh (fun e=>cfail_any hi hw e);have HD:=hhh (cdone_any hi hw);have HA:=hhh (catkey_any hi hw hf.c);have HFu:=hhh (fun (u:World) (t:Own.Turn h h w u)=>cfull_any hi t.has);have HV:=hhh (fun (u:World) (t:Own.Turn h h w u) v=>cvalue_any hi t.has hf.c hn v);have HLe:=hhh (fun (u:World) (t:Own.Turn h h w u) m=>clength_any hi t.has hf.c hn true m);have HCo:=hhh (fun (u:World) (t:Own.Turn h h w u) pr m=>pcount_any hi t.has hf.c hn pr m);have HLo:=hhh (fun (u:World) (t:Own.Turn h h w u) g1 g2 g3 g4=>plong_any hi t.has x g1 g2 g3 g4);have HX0:=fun u=>ptext_any x u
 have HK:=hhh (fun u=>pcontainer_any x u);have HXd:isText x=false:=by unfold isText;simp;omega
 have HKd:isContainer x=((decide (128 <= N) && decide (N <= 159)) || (decide (220 <= N) && decide (N <= 223))):=by rw [hN];rfl
 rw [HXd] at HX0 HP0;have HX:=hhh HX0;have HKh:=hhh HKd;have hltI:(N:Int) < 256:=by omega
 have HNl:=hhh (show N < 256 by omega);have eA:bits .and .u8 (N:Int) 15=(N:Int) % 16:=bits_mask .u8 8 (by decide) wraps_u8 4 (by decide) (N:Int) (by omega) (by omega);have eB:bits .and .u8 (N:Int) 31=(N:Int) % 32:=bits_mask .u8 8 (by decide) wraps_u8 5 (by decide) (N:Int) (by omega) (by omega);obtain ⟨D,hD⟩:∃ D,D=255 - N:=⟨_,rfl⟩;have eX:bits .xor .u8 IntKind.u8.max (N:Int)=(D:Int):=by
  have:=u8_not ⟨N,by omega⟩;simp only at this;show bits .xor .u8 255 (N:Int)=(D:Int);rw [this];omega
 have eW:IntKind.u64.wrap (D:Int)=(D:Int):=by rw [IntKind.wrap_u64];omega
 rw [<- hD] at HP0;have HDl:=hhh (show D < 256 by omega);clear hD;have HPh:=hhh HP0;have HNb:=hhh (show 224 <= N /\ N <= 255 by omega);rw [<- hN];rw [<- hN] at HX HK HLo;generalize p.item x=O at HPh |-;generalize isContainer x=K at HKh HPh HK;clear hi hw hf HP0 hN hn HXd HKd hlo hhi HX0;have q0:((N:Int) == 193)=false:=by rw [beq_eq_false_iff_ne];have:=HNb.o;omega
 go_enter Tryz.func212,Tryz.ntmps212;go_wp2_with (fail);refine HD.o.mono ?_;rintro e w1 ⟨rfl,rfl⟩
 cases hd:p.c.done
 case true =>
  have HP:=hhh (HPh.o.trans (if_pos (.inl hd)));clear HPh hd;go_wp2_with (fail);refine (HF0.o 2).mono ?_;rintro e w4 ⟨v,hv,h4,rfl,hs,i4,t4⟩;have HI4:=hhh i4;have HT4:=hhh t4;have HS4:=hhh hs;clear i4 t4 hs;go_wp2;go_ret;rw [HP.o];exact ⟨_,hv,h4,rfl,HS4.o,HI4.o,HT4.o⟩
 case false =>
  have HPd:=hhh (HPh.o.trans (if_neg (by rw [hd];first | (simp;done) | (have:=HNb.o;simp;omega))));clear HPh hd;go_wp2_with (fail);refine HA.o.mono ?_;rintro e w2 ⟨rfl,t2⟩;have T2:=hhh t2;clear t2
  cases hk:p.c.atKey
  ·have HPk:=hhh (HPd.o.trans (if_neg (by rw [hk];simp)))
   clear HPd hk HX;have a1:(199:Int) <= (N:Int):=by have:=HNb.o;omega
   have a2:¬ (N:Int) <= 201:=by have:=HNb.o;omega
   have a3:(212:Int) <= (N:Int):=by have:=HNb.o;omega
   have a4:¬ (N:Int) <= 216:=by have:=HNb.o;omega
   have a5:((N:Int) == 202)=false:=by rw [beq_eq_false_iff_ne];have:=HNb.o;omega
   have a6:((N:Int) == 203)=false:=by rw [beq_eq_false_iff_ne];have:=HNb.o;omega
   have a7:¬ (N:Int) < 128:=by have:=HNb.o;omega
   have a8:(224:Int) <= (N:Int):=by have:=HNb.o;omega
   have HPl:=hhh (HPk.o.trans (if_neg (by first | (have:=HNb.o;omega) | trivial | (simp;done))));clear HPk;have HPm:=hhh (HPl.o.trans (if_neg (by first | (have:=HNb.o;omega) | trivial | (simp;done))));clear HPl;have hK:K=false:=by rw [HKh.o];have:=HNb.o;first | (simp;done) | (simp;omega)
   rw [hK] at HK HPm;clear hK HKh;go_wp2_with (fail);refine (HK.o _).mono ?_;rintro e w3 ⟨rfl,rfl⟩;have HPn:=hhh (HPm.o.trans (if_neg (by simp)));clear HPm;have HP:=hhh ((HPn.o.trans (if_neg (by first | (have:=HNb.o;omega) | trivial | (simp;done)))).trans (if_pos (by first | (have:=HNb.o;omega) | trivial | (simp;done))));clear HPn HNb;go_wp2_with (fail);refine (HV.o _ T2.o (.whole true D)).mono ?_;rintro e w4 ⟨v,hv,h4,rfl,hs,i4,t4⟩;have HI4:=hhh i4;have HT4:=hhh t4;have HS4:=hhh hs;clear i4 t4 hs;go_wp2;go_ret;rw [HP.o];exact ⟨_,hv,h4,rfl,HS4.o,HI4.o,T2.o.trans HT4.o⟩
  ·go_wp2_with (fail)
   refine (HX.o _).mono ?_;rintro e w3 ⟨rfl,rfl⟩;have HP:=hhh (HPd.o.trans (if_pos (by rw [hk];simp)));clear HPd hk HX;go_wp2_with (fail);refine (HF.o _ T2.o 8).mono ?_;rintro e w4 ⟨v,hv,h4,rfl,hs,i4,t4⟩;have HI4:=hhh i4;have HT4:=hhh t4;have HS4:=hhh hs;clear i4 t4 hs;go_wp2;go_ret;rw [HP.o];exact ⟨_,hv,h4,rfl,HS4.o,HI4.o,T2.o.trans HT4.o⟩
end
end Pip
end
section
open Go.RowKit
open Json (Part)
namespace Pip
section
variable {p:Pin} {b:Nat} {h:Own.Heap} {w:World}
theorem pitem_any {n : Nat} (hi : p.Is b h) (hw : Own.Has w h) (hf : p.Fits n) (hn : n ≤ 1000000) (x : UInt8) :
  Calls Tryz.prog 212 #[.pointer (some ⟨b,0,none⟩),.int .u8 (x.toNat:Int)] w (PinDoes (p.item x) b h w):=by
 have hlt:=UInt8.toNat_lt x;by_cases g0:x.toNat <= 127
 ·exact pitem_0 hi hw hf hn x (by omega) g0
 by_cases g128:x.toNat <= 143
 ·exact pitem_128 hi hw hf hn x (by omega) g128
 by_cases g144:x.toNat <= 159
 ·exact pitem_144 hi hw hf hn x (by omega) g144
 by_cases g160:x.toNat <= 191
 ·exact pitem_160 hi hw hf hn x (by omega) g160
 by_cases g192:x.toNat <= 192
 ·exact pitem_192 hi hw hf hn x (by omega) g192
 by_cases g193:x.toNat <= 193
 ·exact pitem_193 hi hw hf hn x (by omega) g193
 by_cases g194:x.toNat <= 194
 ·exact pitem_194 hi hw hf hn x (by omega) g194
 by_cases g195:x.toNat <= 195
 ·exact pitem_195 hi hw hf hn x (by omega) g195
 by_cases g196:x.toNat <= 198
 ·exact pitem_196 hi hw hf hn x (by omega) g196
 by_cases g199:x.toNat <= 201
 ·exact pitem_199 hi hw hf hn x (by omega) g199
 by_cases g202:x.toNat <= 202
 ·exact pitem_202 hi hw hf hn x (by omega) g202
 by_cases g203:x.toNat <= 203
 ·exact pitem_203 hi hw hf hn x (by omega) g203
 by_cases g204:x.toNat <= 211
 ·exact pitem_204 hi hw hf hn x (by omega) g204
 by_cases g212:x.toNat <= 216
 ·exact pitem_212 hi hw hf hn x (by omega) g212
 by_cases g217:x.toNat <= 219
 ·exact pitem_217 hi hw hf hn x (by omega) g217
 by_cases g220:x.toNat <= 223
 ·exact pitem_220 hi hw hf hn x (by omega) g220
 exact pitem_224 hi hw hf hn x (by omega) (by omega)
end
end Pip
end
end Go.Proofs.YtjfblahlkjopcaaGreat
