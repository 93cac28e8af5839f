/- Texts of the walk, joined. -/
import Derived.Test.YtfheacchdfdeiaaGreatM19
import Derived.Test.YtfheacchdfdeiaaGreatM22
set_option maxRecDepth 100000
set_option maxHeartbeats 8000000
namespace Go.Proofs.YtfheacchdfdeiaaGreat
section
open Go.RowKit
open Json (Part)
namespace Pip
theorem infoU8:(Tryz.prog.info? 5).map (fun i=>(i.zero,i.size,i.bytes))=some (some (.int .u8 0),1,1):=by kernel_rfl
def Core.dA (c:Core) (word chunks:Bool) (lack:Nat) (s:List UInt8) (k:Esc.Chk):Core:=⟨c.depth,c.opened,c.done,c.e,word,chunks,lack,s,k⟩
section
variable {c:Core} {T:TypeId} {b:Nat} {post:List Value} {h:Own.Heap} {w:World}
theorem jE {n : Nat} (hi : c.Is T b post h) (hw : Own.Has w h) (hf : c.Fits n) (hn : n ≤ 1000000) :
  Calls Tryz.prog 201 #[.pointer (some ⟨b,0,none⟩)] w (bM c.text T b post h w):=by
 have hd:(c.dA c.word false c.lack [] c.c).Fits n:=⟨hf.depth,hf.deep,hf.aW,hf.e,by have:=hf.s;show ([]:List UInt8).length + c.lack <= 200;rw [List.length_nil];omega,hf.c⟩;have HP0:c.text=(c.dA c.word false c.lack [] c.c).value (if c.word then .word ⟨c.s.toArray⟩ else .cM ⟨c.s.toArray⟩):=rfl;obtain ⟨oa,oc,sa,sc,ho,hs,rfl,h1,h2⟩:=hi.cL;have c4:=hw.cell b _ _ mcs 4 _ rfl;have c5:=hw.cell b _ _ mcs 5 _ rfl;have c7:=hw.cell b _ _ mcs 7 _ rfl;have f5:=hw.free b _ _ mcs 5;have f7:=hw.free b _ _ mcs 7;have hcv:(convert 92 9 (.slice sa c.s.length sc)).run Tryz.prog w = .ok (.string ⟨c.s.toArray⟩) w :=
  Own.Slc.kM c.s 92 9 Tryz.underlying92 Tryz.underlying5 Tryz.underlying9 h2 (Own.Has.right (Own.Has.right (a:=[_]) hw))
 have T1 : Own.aA (Own.row b T (c.cells (.slice oa c.opened.length oc) (.slice sa c.s.length sc) ++ post) :: (ho ++ hs))
   ((Own.row b T ((c.dA c.word false c.lack [] c.c).cells (.slice oa c.opened.length oc) (.slice none 0 0) ++ post) :: ho) ++ hs) w ((w.setCell ⟨b,7,none⟩ (.slice none 0 0)).setCell ⟨b,5,none⟩ (.bool false)) :=
  ((Own.aA.refl hw).put 7 (.slice none 0 0) _ rfl).put 5 (.bool false) _ rfl
 have HT:=hhh T1.drop;have i1:(c.dA c.word false c.lack [] c.c).Is T b post (Own.row b T ((c.dA c.word false c.lack [] c.c).cells (.slice oa c.opened.length oc) (.slice none 0 0) ++ post) :: ho) :=
  ⟨_,_,ho,[],h1,.bare none rfl,by rw [List.append_nil]⟩
 have HV:=hhh (fun v=>dL i1 HT.o.has hd hn v);obtain ⟨S,hS⟩:∃ S:ByteArray,S=⟨c.s.toArray⟩:=⟨_,rfl⟩;rw [<- hS] at hcv HP0;generalize c.text=O at HP0 |-;have HPb:=fun (h:c.word=false)=>HP0.trans (by rw [if_neg (by rw [h];exact Bool.false_ne_true)])
 have HPw:=fun (h:c.word=true)=>HP0.trans (by rw [if_pos h])
 clear hS hi hw hf h1 h2 T1 i1 hd HP0
 cases hwd:c.word
 ·rw [hwd] at c4
  have HP:=hhh (HPb hwd);have HVv:=hhh (HV.o (.cM S));clear hwd HPb HPw HV;go_enter Tryz.func201,Tryz.ntmps201;go_wp2_with (fail);refine HVv.o.mono ?_;rintro e w1 ⟨v,hv,h',rfl,hs,i1,t1⟩;have HI:=hhh i1;have HT2:=hhh (HT.o.trans t1);have HS:=hhh hs;clear i1 t1 hs HVv HT;go_wp2;go_ret;rw [HP.o];exact ⟨_,hv,h',rfl,HS.o,HI.o,HT2.o⟩
 ·rw [hwd] at c4
  have HP:=hhh (HPw hwd);have HVv:=hhh (HV.o (.word S));clear hwd HPb HPw HV;go_enter Tryz.func201,Tryz.ntmps201;go_wp2_with (fail);refine HVv.o.mono ?_;rintro e w1 ⟨v,hv,h',rfl,hs,i1,t1⟩;have HI:=hhh i1;have HT2:=hhh (HT.o.trans t1);have HS:=hhh hs;clear i1 t1 hs HVv HT;go_wp2;go_ret;rw [HP.o];exact ⟨_,hv,h',rfl,HS.o,HI.o,HT2.o⟩
theorem gG {n : Nat} (hi : c.Is T b post h) (hw : Own.Has w h) (hf : c.Fits n) (hn : n ≤ 1000000) (word : Bool) (m : Nat) :
  Calls Tryz.prog 208 #[.pointer (some ⟨b,0,none⟩),.bool word,.int .u64 (m:Int)] w (bM (c.length word m) T b post h w):=by
 have hs200:=hf.s;have HFl:=hhh (cP hi hw 5);have HP0:c.length word m=if 200 - c.s.length < m then c.fail 5 else if 0 < m \/ c.chunks=true then (c.dA word c.chunks m c.s Chk_zero,[]) else (c.dA word c.chunks m c.s Chk_zero).text:=rfl
 obtain ⟨oa,oc,sa,sc,ho,hs,rfl,h1,h2⟩:=hi.cL;have c4:=hw.cell b _ _ mcs 4 _ rfl;have c5:=hw.cell b _ _ mcs 5 _ rfl;have c6:=hw.cell b _ _ mcs 6 _ rfl;have c7:=hw.cell b _ _ mcs 7 _ rfl;have c8:=hw.cell b _ _ mcs 8 _ rfl;have c9:=hw.cell b _ _ mcs 9 _ rfl;have c10:=hw.cell b _ _ mcs 10 _ rfl;have c11:=hw.cell b _ _ mcs 11 _ rfl;have f4:=hw.free b _ _ mcs 4;have f6:=hw.free b _ _ mcs 6;have f8:=hw.free b _ _ mcs 8;have f9:=hw.free b _ _ mcs 9;have f10:=hw.free b _ _ mcs 10;have f11:=hw.free b _ _ mcs 11
 have T1 := fun (_ : m ≤ 200) => (show Own.aA (Own.row b T (c.cells (.slice oa c.opened.length oc) (.slice sa c.s.length sc) ++ post) :: (ho ++ hs))
   (Own.row b T ((c.dA word c.chunks m c.s Chk_zero).cells (.slice oa c.opened.length oc) (.slice sa c.s.length sc) ++ post) :: (ho ++ hs)) w
   ((((((w.setCell ⟨b,4,none⟩ (.bool word)).setCell ⟨b,6,none⟩ (.int .i64 (m:Int))).setCell ⟨b,8,none⟩ (.int .i64 0)).setCell ⟨b,9,none⟩ (.int .u8 0)).setCell ⟨b,10,none⟩ (.int .u8 0)).setCell ⟨b,11,none⟩ (.bool false)) from
  ((((((Own.aA.refl hw).put 4 (.bool word) _ rfl).put 6 (.int .i64 (m:Int)) _ rfl).put 8 (.int .i64 0) _ rfl).put 9 (.int .u8 0) _ rfl).put 10 (.int .u8 0) _ rfl).put 11 (.bool false) _ rfl)
 have i1:(c.dA word c.chunks m c.s Chk_zero).Is T b post (Own.row b T ((c.dA word c.chunks m c.s Chk_zero).cells (.slice oa c.opened.length oc) (.slice sa c.s.length sc) ++ post) :: (ho ++ hs)):=⟨_,_,ho,hs,h1,h2,rfl⟩;have HI1:=hhh i1;obtain ⟨K,hK⟩:∃ K,K=200 - c.s.length:=⟨_,rfl⟩;have hsub:(200:Int) - (c.s.length:Int)=(K:Int):=by omega
 have hK200:K <= 200:=by omega
 rw [<- hK] at HP0;have hd:=fun (hm:m <= K)=>(show (c.dA word c.chunks m c.s Chk_zero).Fits n from ⟨hf.depth,hf.deep,hf.aW,hf.e,by show c.s.length + m <= 200;omega,Nat.zero_le _⟩)
 generalize c.length word m=O at HP0 |-;have fin:∀ P:Core × List Part,O=P -> ∀ (e:Ending) (w':World),bM P T b post (Own.row b T (c.cells (.slice oa c.opened.length oc) (.slice sa c.s.length sc) ++ post) :: (ho ++ hs)) w e w' -> bM O T b post (Own.row b T (c.cells (.slice oa c.opened.length oc) (.slice sa c.s.length sc) ++ post) :: (ho ++ hs)) w e w':=fun P hP e w' hd=>hP ▸ hd
 have Fin:=hhh fin;clear fin hi i1 h1 h2 hs200 hK;by_cases hlt:K < m
 ·have HP:=hhh (show O=c.fail 5 by rw [HP0,if_pos hlt])
  have hltI:(K:Int) < (m:Int):=by omega
  clear HP0 hd T1 hf hw c4 c5 c6 c8 c9 c10 c11 f4 f6 f8 f9 f10 f11;go_enter Tryz.func208,Tryz.ntmps208;go_wp2_with (fail);refine HFl.o.mono ?_;rintro e w1 ⟨v,hv,h',rfl,hs,i1,t1⟩;have HI:=hhh i1;have HT2:=hhh t1;have HS:=hhh hs;clear i1 t1 hs;go_wp2;go_ret;exact Fin.o _ HP.o _ _ ⟨_,hv,h',rfl,HS.o,HI.o,HT2.o⟩
 ·have hltI:¬ (K:Int) < (m:Int):=by omega
  have hm200:m <= 200:=by omega
  have HT1:=hhh (T1 hm200);have hd1:=hd (by omega);rw [if_neg hlt] at HP0;have HTx:=hhh (jE HI1.o HT1.o.has hd1 hn);clear T1 hd hd1 HFl hlt hf hw;have hwm:IntKind.i64.wrap (m:Int)=(m:Int):=by rw [IntKind.wrap_i64];omega
  rcases Nat.eq_zero_or_pos m with h0 | h0
  ·subst h0
   cases hch:c.chunks
   ·have HP:=hhh (HP0.trans (if_neg (by rw [hch];simp)))
    rw [hch] at c5;clear HP0;go_enter Tryz.func208,Tryz.ntmps208;go_wp2_with (fail);refine HTx.o.mono ?_;rintro e w1 ⟨v,hv,h',rfl,hs,i1,t1⟩;have HI:=hhh i1;have HT2:=hhh (HT1.o.trans t1);have HS:=hhh hs;clear i1 t1 hs;go_wp2;go_ret;exact Fin.o _ HP.o _ _ ⟨_,hv,h',rfl,HS.o,HI.o,HT2.o⟩
   ·have HP:=hhh (HP0.trans (if_pos (.inr hch)))
    rw [hch] at c5;clear HP0;go_enter Tryz.func208,Tryz.ntmps208;go_wp2_with (fail);go_ret;exact Fin.o _ HP.o _ _ (.bF rfl HI1.o HT1.o)
  ·have HP:=hhh (HP0.trans (if_pos (.inl h0)))
   have h0I:(0:Int) < (m:Int):=by omega
   clear HP0 HTx;go_enter Tryz.func208,Tryz.ntmps208;go_wp2_with (fail);go_ret;exact Fin.o _ HP.o _ _ (.bF rfl HI1.o HT1.o)
end
end Pip
end
section
open Go.RowKit
open Json (Part)
namespace Pip
section
variable {c:Core} {T:TypeId} {b:Nat} {post:List Value} {h:Own.Heap} {w:World}
theorem Core.Is.check (hi : c.Is T b post h) (hw : Own.Has w h) (x : UInt8) (hl : c.c.lack ≤ 3) :
  Calls Tryz.prog 185 #[.pointer (some ⟨b,8,none⟩),.int .u8 (x.toNat:Int)] w fun e w'=>e = .returned (.bool (c.c.step x).2) /\ ∃ h',(c.dA c.word c.chunks c.lack c.s (c.c.step x).1).Is T b post h' /\ Own.aA h h' w w':=by
 obtain ⟨ov,sv,ho,hs,h1,h2,rfl⟩:=hi;have ha:At.Is w b T [.int .i64 (c.depth:Int),ov,.bool c.done,.int .i64 (c.e:Int),.bool c.word,.bool c.chunks,.int .i64 (c.lack:Int),sv] c.c.enc post:=hw.is3 mcs;refine (Esc.jL w b T _ post c.c x hl ha).mono ?_;rintro e w' ⟨rfl,h3,h4⟩;exact ⟨rfl,_,⟨ov,sv,ho,hs,h1,h2,rfl⟩,Own.aA.only hw h3 h4⟩
theorem Core.Is.whole (hi : c.Is T b post h) (hw : Own.Has w h) :
  Calls Tryz.prog 177 #[.pointer (some ⟨b,8,none⟩)] w fun e w'=>e = .returned (.bool c.c.whole) /\ w=w':=by
 obtain ⟨ov,sv,ho,hs,h1,h2,rfl⟩:=hi;have ha:At.Is w b T [.int .i64 (c.depth:Int),ov,.bool c.done,.int .i64 (c.e:Int),.bool c.word,.bool c.chunks,.int .i64 (c.lack:Int),sv] c.c.enc post:=hw.is3 mcs;refine (Esc.qD w b T _ post c.c ha).mono ?_;rintro e w' ⟨rfl,h3⟩;exact ⟨rfl,h3⟩
theorem sD {n : Nat} (hi : c.Is T b post h) (hw : Own.Has w h) (hf : c.Fits n) (hn : n ≤ 1000000) (hl : 0 < c.lack) (x : UInt8) :
  Calls Tryz.prog 196 #[.pointer (some ⟨b,0,none⟩),.int .u8 (x.toNat:Int)] w (bM (c.byte x) T b post h w):=by
 obtain ⟨i0,hi0,e0⟩:=Option.map_eq_some_iff.1 infoU8;simp only [Prod.mk.injEq] at e0;obtain ⟨hz,hsz,hby⟩:=e0;have Hi:=hhh (And.intro hi0 (And.intro hz (And.intro hsz hby)));have hs200:=hf.s;have hck:=hf.c;have hFd:=hf.fed hl x;have HP0:c.byte x=if c.word=true /\ ((c.c.step x).2=false \/ (c.lack=1 /\ (c.chk x).whole=false)) then (c.fed x).fail 9 else if 1 < c.lack \/ c.chunks=true then (c.fed x,[]) else (c.fed x).text:=rfl
 have hchk:c.chk x=if c.word then (c.c.step x).1 else c.c:=rfl
 have hfed:c.fed x=c.dA c.word c.chunks (c.lack - 1) (c.s ++ [x]) (c.chk x):=rfl;obtain ⟨oa,oc,sa,sc,ho,hs,rfl,h1,h2⟩:=hi.cL;have c7:=hw.cell b _ _ mcs 7 _ rfl;have hW:Own.Has w (hs ++ (Own.row b T (c.cells (.slice oa c.opened.length oc) (.slice sa c.s.length sc) ++ post) :: ho)):=(Own.Has.swap (a:=_ :: ho) hw);have HW:=hhh hW;have HS:=hhh h2;have hM:c.s.length < 200:=by omega
 have HMl:=hhh (iG c.s)
 have Hpm:=hhh (show (Own.row b T (c.cells (.slice oa c.opened.length oc) (.slice sa c.s.length sc) ++ post) :: (ho ++ hs)).Perm (hs ++ (Own.row b T (c.cells (.slice oa c.opened.length oc) (.slice sa c.s.length sc) ++ post) :: ho)) from
  List.perm_append_comm (l₁:=_ :: ho))
 obtain ⟨K,hK⟩:∃ K,K=c.lack - 1:=⟨_,rfl⟩;have hKl:c.lack=K + 1:=by omega
 have HIs:=hhh (fun (sv:Value) (hs':Own.Heap) (h2':Own.Slc 5 (u8s (c.s ++ [x])) sv hs')=>(show (c.dA c.word c.chunks K (c.s ++ [x]) c.c).Is T b post (Own.row b T ((c.dA c.word c.chunks K (c.s ++ [x]) c.c).cells (.slice oa c.opened.length oc) sv ++ post) :: (ho ++ hs')) from
  ⟨_,sv,ho,hs',h1,h2',rfl⟩))
 rw [hfed,<- hK] at hFd HP0;have h1K:(1 < c.lack \/ c.chunks=true) ↔ (0 < K \/ c.chunks=true):=by
  rw [hKl];constructor
  ·rintro (h | h)
   ·exact .inl (by omega)
   ·exact .inr h
  ·rintro (h | h)
   ·exact .inl (by omega)
   ·exact .inr h
 have h1L:c.lack=1 ↔ K=0:=by omega
 simp only [h1K,h1L] at HP0;generalize c.byte x=O at HP0 |-
 have HPf:=hhh (fun (hwd:c.word=false)=>(show (O=if 0 < K \/ c.chunks=true then (c.dA c.word c.chunks K (c.s ++ [x]) c.c,[]) else (c.dA c.word c.chunks K (c.s ++ [x]) c.c).text) /\ (c.dA c.word c.chunks K (c.s ++ [x]) c.c).Fits n by
  have hk:c.chk x=c.c:=by rw [hchk,hwd];rfl
  rw [hk] at HP0 hFd
  exact ⟨by rw [HP0,if_neg (by rw [hwd];rintro ⟨h,_⟩;cases h)],hFd⟩))
 have HPt:=hhh (fun (hwd:c.word=true)=>(show (O=if (c.c.step x).2=false \/ (K=0 /\ (c.c.step x).1.whole=false) then (c.dA c.word c.chunks K (c.s ++ [x]) (c.c.step x).1).fail 9 else if 0 < K \/ c.chunks=true then (c.dA c.word c.chunks K (c.s ++ [x]) (c.c.step x).1,[]) else (c.dA c.word c.chunks K (c.s ++ [x]) (c.c.step x).1).text) /\ (c.dA c.word c.chunks K (c.s ++ [x]) (c.c.step x).1).Fits n by
  have hk:c.chk x=(c.c.step x).1:=by rw [hchk,hwd];rfl
  rw [hk] at HP0 hFd;refine ⟨?_,hFd⟩;by_cases hq:(c.c.step x).2=false \/ (K=0 /\ (c.c.step x).1.whole=false)
  ·rw [HP0,if_pos ⟨hwd,hq⟩,if_pos hq]
  ·rw [HP0,if_neg (fun h=>hq h.2),if_neg hq]))
 have fin:∀ P:Core × List Part,O=P -> ∀ (e:Ending) (w':World),bM P T b post (Own.row b T (c.cells (.slice oa c.opened.length oc) (.slice sa c.s.length sc) ++ post) :: (ho ++ hs)) w e w' -> bM O T b post (Own.row b T (c.cells (.slice oa c.opened.length oc) (.slice sa c.s.length sc) ++ post) :: (ho ++ hs)) w e w':=fun P hP e w' hd=>hP ▸ hd
 have Fin:=hhh fin;have Hn:=hhh hn;have Hck:=hhh hck;have HKl:=hhh hKl;have hkm:((K + 1:Nat):Int) - 1=(K:Int):=by omega
 have hK8:K < 200:=by omega
 clear fin hi hw hf h1 h2 hi0 hz hsz hby hW hs200 hck hFd HP0 hchk hfed hl hK hn h1K h1L hKl;go_enter Tryz.func196,Tryz.ntmps196;go_wp2_with (at_builtin;go_loud (refine Own.bN w.heap.size rfl rfl _ _ 92 rfl 5 i0 (.int .u8 0) 1 Tryz.underlying92 Hi.o.1 Hi.o.2.1 Hi.o.2.2.1 Hi.o.2.2.2 rfl (.slice sa c.s.length sc) (u8s c.s) c.s.length HMl.o hs _ rfl HS.o HW.o _ rfl rfl ?c1 ?c2 ?_))
 case c1=>simp only [maxLen];omega
 case c2=>omega
 intro ad' c' h' w1 hs' ht';have S1:=hhh (show Own.Slc 5 (u8s (c.s ++ [x])) (.slice ad' (c.s.length + 1) c') h' by rw [yZ];exact hs')
 have T1:=hhh (show Own.aA (Own.row b T (c.cells (.slice oa c.opened.length oc) (.slice sa c.s.length sc) ++ post) :: (ho ++ hs)) (Own.row b T (c.cells (.slice oa c.opened.length oc) (.slice sa c.s.length sc) ++ post) :: (ho ++ h')) w w1 from
  ht'.perm Hpm.o.symm (List.perm_append_comm (l₂:=_ :: ho)))
 have g7:=T1.o.has.free b _ _ mcs 7;have g6:=T1.o.has.free b _ _ mcs 6;have d6:=T1.o.has.cell b _ _ mcs 6 _ rfl;have d7:=T1.o.has.cell b _ _ mcs 7 _ rfl;have d4:=T1.o.has.cell b _ _ mcs 4 _ rfl;have d5:=T1.o.has.cell b _ _ mcs 5 _ rfl;rw [HKl.o] at d6
 have T2 := hhh (show Own.aA (Own.row b T (c.cells (.slice oa c.opened.length oc) (.slice sa c.s.length sc) ++ post) :: (ho ++ hs)) (Own.row b T ((c.dA c.word c.chunks K (c.s ++ [x]) c.c).cells (.slice oa c.opened.length oc) (.slice ad' (c.s.length + 1) c') ++ post) :: (ho ++ h')) w
   ((w1.setCell ⟨b,7,none⟩ (.slice ad' (c.s.length + 1) c')).setCell ⟨b,6,none⟩ (.int .i64 (K:Int))) from (T1.o.put 7 (.slice ad' (c.s.length + 1) c') _ rfl).put 6 (.int .i64 (K:Int)) _ rfl)
 have I2:=hhh (HIs.o _ _ S1.o);have HCk:=hhh (I2.o.check T2.out.has x Hck.o);clear hs' ht' HIs S1 T1 HS HW HMl Hpm
 cases hwd:c.word
 ·obtain ⟨hP,hF⟩:=HPf.o hwd
  rw [hwd] at d4;have HTx:=hhh (jE I2.o T2.out.has hF Hn.o);clear HPf HPt hwd hF HCk;rcases Nat.eq_zero_or_pos K with h0 | h0
  ·subst h0
   cases hch:c.chunks
   ·have HP:=hhh (hP.trans (if_neg (by rw [hch];simp)))
    rw [hch] at d5;clear hP hch;go_wp2_with (fail);refine HTx.o.mono ?_;rintro e w2 ⟨v,hv,h2,rfl,hs,i2,t2⟩;have HI:=hhh i2;have HT2:=hhh (T2.out.trans t2);have HS:=hhh hs;clear i2 t2 hs HTx T2;go_wp2;go_ret;exact Fin.o _ HP.o _ _ ⟨_,hv,h2,rfl,HS.o,HI.o,HT2.o⟩
   ·have HP:=hhh (hP.trans (if_pos (.inr hch)))
    rw [hch] at d5;clear hP hch HTx;go_wp2_with (fail);go_ret;exact Fin.o _ HP.o _ _ (.bF rfl I2.o T2.out)
  ·have HP:=hhh (hP.trans (if_pos (.inl h0)))
   have h0I:(0:Int) < (K:Int):=by omega
   clear hP HTx;go_wp2_with (fail);go_ret;exact Fin.o _ HP.o _ _ (.bF rfl I2.o T2.out)
 ·obtain ⟨hP,hF⟩:=HPt.o hwd
  rw [hwd] at d4;have HFF:=hhh hF;clear HPf HPt hwd hF;rw [show (c.dA c.word c.chunks K (c.s ++ [x]) c.c).c=c.c from rfl] at HCk;generalize c.c.step x=sx at hP HFF HCk;obtain ⟨k2,ok⟩:=sx;simp only at hP HFF;have HPh:=hhh hP;clear hP;go_wp2_with (fail);refine HCk.o.mono ?_;rintro e w2 ⟨rfl,h2,i2,t2⟩;have HI:=hhh (show (c.dA c.word c.chunks K (c.s ++ [x]) k2).Is T b post h2 from i2);have T3:=hhh (T2.out.trans t2);obtain ⟨-,-,-,e5,e6⟩:=HI.o.cell T3.o.has;replace e5:w2.cell? ⟨b,5,none⟩=some (.bool c.chunks):=e5;replace e6:w2.cell? ⟨b,6,none⟩=some (.int .i64 (K:Int)):=e6;clear i2 t2 HCk T2 I2 d4 d5 d6 d7 g6 g7;have HFl:=hhh (cP HI.o T3.o.has 9);have HTx:=hhh (jE HI.o T3.o.has HFF.o Hn.o);have HWh:=hhh (HI.o.whole T3.o.has);rw [show (c.dA c.word c.chunks K (c.s ++ [x]) k2).c=k2 from rfl] at HWh
  cases ok
  ·have HP:=hhh (HPh.o.trans (if_pos (.inl rfl)))
   clear HPh HTx HWh;go_wp2_with (fail);refine HFl.o.mono ?_;rintro e w3 ⟨v,hv,h3,rfl,hs,i3,t3⟩;have HI3:=hhh i3;have HT3:=hhh (T3.o.trans t3);have HS:=hhh hs;clear i3 t3 hs;go_wp2;go_ret;exact Fin.o _ HP.o _ _ ⟨_,hv,h3,rfl,HS.o,HI3.o,HT3.o⟩
  ·rcases Nat.eq_zero_or_pos K with h0 | h0
   ·subst h0
    generalize k2.whole=wh at HPh HWh;go_wp2_with (fail);refine HWh.o.mono ?_;rintro e w3 ⟨rfl,rfl⟩
    cases wh
    ·have HP:=hhh (HPh.o.trans (if_pos (by simp)))
     clear HPh HTx HWh;go_wp2_with (fail);refine HFl.o.mono ?_;rintro e w3 ⟨v,hv,h3,rfl,hs,i3,t3⟩;have HI3:=hhh i3;have HT3:=hhh (T3.o.trans t3);have HS:=hhh hs;clear i3 t3 hs;go_wp2;go_ret;exact Fin.o _ HP.o _ _ ⟨_,hv,h3,rfl,HS.o,HI3.o,HT3.o⟩
    ·have hP:=HPh.o.trans (if_neg (by simp))
     clear HWh HFl HPh
     cases hch:c.chunks
     ·have HP:=hhh (hP.trans (if_neg (by rw [hch];simp)))
      rw [hch] at e5;clear hP hch;go_wp2_with (fail);refine HTx.o.mono ?_;rintro e w3 ⟨v,hv,h3,rfl,hs,i3,t3⟩;have HI3:=hhh i3;have HT3:=hhh (T3.o.trans t3);have HS:=hhh hs;clear i3 t3 hs;go_wp2;go_ret;exact Fin.o _ HP.o _ _ ⟨_,hv,h3,rfl,HS.o,HI3.o,HT3.o⟩
     ·have HP:=hhh (hP.trans (if_pos (.inr hch)))
      rw [hch] at e5;clear hP hch HTx;go_wp2_with (fail);go_ret;exact Fin.o _ HP.o _ _ (.bF rfl HI.o T3.o)
   ·have HP:=hhh ((HPh.o.trans (if_neg (by simp;omega))).trans (if_pos (.inl h0)))
    have h0I:(0:Int) < (K:Int):=by omega
    have h0b:((K:Int) == 0)=false:=by rw [beq_eq_false_iff_ne];omega
    clear HPh HTx HWh HFl;go_wp2_with (fail);go_ret;exact Fin.o _ HP.o _ _ (.bF rfl HI.o T3.o)
end
end Pip
end
end Go.Proofs.YtfheacchdfdeiaaGreat
