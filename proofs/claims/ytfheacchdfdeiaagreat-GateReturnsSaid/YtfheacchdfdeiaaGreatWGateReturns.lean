/- GateReturns: the walk. -/
import Derived.Test.YtfheacchdfdeiaaGreatM12
import Derived.Test.YtfheacchdfdeiaaGreatM36
import Derived.Test.YtfheacchdfdeiaaGreatM40
import Derived.Test.YtfheacchdfdeiaaGreatM47
import Derived.Test.YtfheacchdfdeiaaGreatM49
import Derived.Test.YtfheacchdfdeiaaGreatM50
import Derived.Carry
set_option maxRecDepth 100000
set_option maxHeartbeats 8000000
namespace Go.Proofs.YtfheacchdfdeiaaGreat.gateReturns
open Go.RowKit Gate Gr
open Purse (ints)
def IsRow (k:IntKind) (w:World) (a:Option Addr) (len cap:Nat) (zs:List Int):Prop :=
 (a=none /\ len=0 /\ cap=0 /\ zs=[]) \/
 ∃ x,a=some x /\ len <= cap /\ cap <= maxLen /\ zs.length=cap /\ (∀ i,i < zs.length -> w.cell? (x.add i)=some (.int k (zs.getD i 0))) /\ ∀ n ∈ zs,(Lit.int k n).wf=true
def IsRowS (w:World) (a:Option Addr) (len cap:Nat) (ss:List ByteArray):Prop :=
 (a=none /\ len=0 /\ cap=0 /\ ss=[]) \/
 ∃ x,a=some x /\ len <= cap /\ cap <= maxLen /\ ss.length=cap /\ (∀ i,i < ss.length -> w.cell? (x.add i)=some (.string (ss.getD i ByteArray.empty))) /\ ∀ s ∈ ss,s.size <= maxLen
theorem nL {w:World} {x:Addr} {v:Value} (h:w.cell? x=some v):x.block < w.heap.size:=by
 unfold World.cell? at h
 cases hb:w.heap[x.block]? with
 | none=>rw [hb] at h;simp at h
 | some o=>exact (Array.getElem?_eq_some_iff.1 hb).1
def idl (n i:Nat):List Nat:=(List.range i).map fun j=>j + n * j
theorem aDy (n i:Nat):idl n (i + 1)=idl n i ++ [i + n * i]:=by simp [idl,List.range_succ]
theorem kJ (n i:Nat):(idl n i).length=i:=by simp [idl]
theorem walk (T : Esc.bI) (a0 : Option Addr) (len0 cap0 : Nat) (z0 : List ByteArray) (a1 : Option Addr) (len1 cap1 : Nat) (z1 : List Int) (w : World) (hT : Esc.bS T w) (w0 : IsRowS w a0 len0 cap0 z0) (w1 : IsRow .i64 w a1 len1 cap1 z1) :
  Calls Tryz.prog 3 #[.slice a0 len0 cap0,.slice a1 len1 cap1] w fun e w'=>e = .returned (.bool true) /\ Below w.heap.size w w':=by
 have HA:=hhh (aCd T w);have BT:=hhh (fun (u v:World) (b:Below w.heap.size w u) (b2:Below u.heap.size u v)=>(b.trans (b2.mono b.size):Below w.heap.size w v));have HTb:=hhh (fun (u:World) (h:Below w.heap.size w u)=>(hT.of (h.mono hT.size):Esc.bS T u));have hrow:∀ k,k < len1 -> ∃ x,a1=some x /\ w.cell? (x.add k)=some (.int .i64 (z1.getD k 0)):=by
  intro k hk;rcases w1 with ⟨_,rfl,_,_⟩ | ⟨x,rfl,h1,h2,h3,h4,h5⟩
  ·omega
  ·exact ⟨x,rfl,h4 k (by omega)⟩
 have HR:=hhh hrow;have hrow0:∀ k,k < len0 -> ∃ x,a0=some x /\ w.cell? (x.add k)=some (.string (z0.getD k ByteArray.empty)):=by
  intro k hk;rcases w0 with ⟨_,rfl,_,_⟩ | ⟨x,rfl,h1,h2,h3,h4,h5⟩
  ·omega
  ·exact ⟨x,rfl,h4 k (by omega)⟩
 have HR0:=hhh hrow0
 have HSz:=hhh (show ∀ k,k < len0 -> (z0.getD k ByteArray.empty).size <= maxLen by
  intro k hk;rcases w0 with ⟨_,rfl,_,_⟩ | ⟨x,rfl,h1,h2,h3,h4,h5⟩
  ·omega
  ·have hkl:k < z0.length:=by omega
   rw [List.getD_eq_getElem?_getD,List.getElem?_eq_getElem hkl]
   exact h5 _ (List.getElem_mem hkl))
 have hlen:len1 <= maxLen /\ len0 <= maxLen:=by
  constructor
  ·rcases w1 with ⟨_,rfl,_,_⟩ | ⟨x,rfl,h1,h2,h3,h4,h5⟩ <;> omega
  ·rcases w0 with ⟨_,rfl,_,_⟩ | ⟨x,rfl,h1,h2,h3,h4,h5⟩ <;> omega
 clear w0 w1 hrow hrow0 hT;rcases (show len0 < 1 \/ 4 < len0 \/ (1 <= len0 /\ len0 <= 4 /\ 60 < len1) \/ (1 <= len0 /\ len0 <= 4 /\ len1 <= 60) by omega) with h1 | h1 | ⟨h1,h2,h3⟩ | ⟨h1,h2,h3⟩
 case inr.inr.inr =>
  have HN:=hhh (fun W=>eC 40000 len0 (by omega) (by omega) (by omega) (by omega) W);have O0:=hhh (Ga.Ok.new T 0 (by omega) 40000 len0 (by omega));obtain ⟨i0,hi,hz0,hz1,hz2⟩:=info_parts (P:=Tryz.prog) (e:=3) (z:=.int .i64 0) (size:=1) (bytes:=8) (by kernel_rfl);have Hi:=hhh (And.intro hi (And.intro hz0 (And.intro hz1 hz2)));have h1I:(1:Int) <= (len0:Int):=by omega
  have h2I:(len0:Int) <= 4:=by omega
  have h3I:(len1:Int) <= 60:=by omega
  clear hi hz0 hz1 hz2 hlen;go_enter Tryz.func3,Tryz.ntmps3;go_wp2_with (fail);refine HA.o.mono ?_;rintro e W1 ⟨rfl,b1⟩;have B1:=hhh b1;clear b1;have bot:=fun {h:Own.Heap} {u:World} (t:Own.aA [] h W1 u)=>BT.o _ _ B1.o (t.below (B:=W1.heap.size) (fun x hx=>by cases hx) (Nat.le_refl _))
  have Bot:=@hhh _ @bot;have hbl:=fun {h:Own.Heap} {u:World} (t:Own.aA [] h W1 u)=>t.least (B:=Esc.tabsEnd) (fun x hx=>by cases hx) (HTb.o _ B1.o).size
  have Hbl:=@hhh _ @hbl;clear bot hbl;go_wp2_with (fail);refine (HN.o _).mono ?_;rintro e W2 ⟨l0,rfl,k0,t0⟩;have Z0:=hhh (And.intro k0 t0);clear k0 t0;go_wp2;go_loopw [6,41] (fun q x wr=>∃ (i q1:Nat) (ad:Option Addr) (c:Nat) (ho:Own.Heap) (l:Lay) (g:Ga),q = .slice ad q1 c /\ x = .int .i64 i /\ i <= len0 /\ q1=i /\ Own.Slc 3 (ints (idl len0 i)) (.slice ad q1 c) ho /\ l.Good g /\ g.Ok T 0 /\ Fed len0 Ses.St.new i g /\ l.gb=l0.gb /\ Own.aA [] (ho ++ l.heap g) W1 wr) (fun _ x _=>len0 - (intOf x).toNat)
  case atStart=>exact ⟨0,0,none,0,[],l0,_,rfl,rfl,by omega,rfl,Own.Slc.bare none rfl,Z0.o.1,O0.o,Fed.new len0 _,rfl,Z0.o.2⟩
  case round =>
   obtain ⟨i,q1,ad,c,ho,l,g,rfl,rfl,hi,hq,hs,k,o,f,hg,tt⟩:=hrel;subst hq;have hi8:(q1:Int) <= 4:=by omega
   have K:=hhh (And.intro k (And.intro o (And.intro f (And.intro hg (And.intro tt hs)))));by_cases hin:q1 < len0
   ·have hinI:(q1:Int) < (len0:Int):=by omega
    have hfst:=f.first hin
    have HC:=jC k o tt.has.right q1 hfst.1 hfst.2 (by rw [f.many];omega) (by rw [f.turns,List.length_range];omega);rw [hg,f.num,f.many] at HC;obtain ⟨ID,hID⟩:∃ ID,ID=q1 + len0 * q1:=⟨_,rfl⟩;rw [<- hID] at HC;have HC:=hhh HC;have HID:=hhh hID;have hlen:=hhh (show (ints (idl len0 q1)).length=q1 by rw [show (ints (idl len0 q1)).length=(idl len0 q1).length from List.length_map ..,kJ]);clear k o f hg tt hfst hID hs;go_wp2_with (fail);refine HC.o.mono ?_;rintro e W5 ⟨rfl,l1,c1,k1,o1,e1,t1⟩;have T5:=hhh (K.o.2.2.2.2.1.trans (Own.aA.behind (r:=ho) t1 K.o.2.2.2.2.1.has));have H5:=hhh (And.intro k1 (And.intro o1 (And.intro (K.o.2.2.1.aI1 (c:=c1) hin K.o.1.len K.o.1.ids) e1)));clear k1 o1 e1 t1 HC;go_wp2_with (at_builtin;go_loud (refine Own.bB rfl _ _ 23 rfl 3 i0 (.int .i64 0) 8 Tryz.underlying23 Hi.o.1 Hi.o.2.1 Hi.o.2.2.1 Hi.o.2.2.2 rfl (.slice ad q1 c) (ints (idl len0 q1)) q1 hlen.o ho (l1.heap (g.cH q1 c1)) rfl K.o.2.2.2.2.2 T5.o.has (.int .i64 (ID:Int)) rfl rfl ?c1 ?c2 ?_))
    case c1=>simp only [maxLen];omega
    case c2=>omega
    intro ad' c' h' w1 hs' ht';have S6:=hhh hs';have T6:=hhh (T5.o.trans ht');clear hs' ht';go_wp2;go_roundw
    case rel =>
     refine ⟨q1 + 1,q1 + 1,ad',c',h',l1,_,rfl,by congr 1,by omega,rfl,?_,H5.o.1,H5.o.2.1,H5.o.2.2.1,H5.o.2.2.2,T6.o⟩;rw [aDy,<- HID.o,show ints (idl len0 q1 ++ [ID])=ints (idl len0 q1) ++ [.int .i64 (ID:Int)] by simp [ints]];exact S6.o
    case measure=>simp [intOf];omega
   ·obtain rfl:q1=len0:=by omega
    have HL0:=hhh K.o.2.2.1.lv;obtain ⟨b,o9,c9,e9,hc9⟩:=Wheel.oB hs (by rw [show (ints (idl q1 q1)).length=(idl q1 q1).length from List.length_map ..,kJ];omega);injection e9 with e91 e92 e93
    subst e91
    have HCe:=hhh (fun (W:World) (hW:Own.Has W ho) (y:Nat) (hy:y < q1)=>(show W.cell? ⟨b,o9 + y,none⟩=some (.int .i64 ((y + q1 * y:Nat):Int)) by
     rw [hc9 W hW y (by rw [show (ints (idl q1 q1)).length=(idl q1 q1).length from List.length_map ..,kJ];exact hy)]
     simp [ints,idl]))
    clear k o f hg tt hs hc9 e92 e93;go_wp2;go_loopw [55] (fun x wr=>∃ (t:Nat) (l:Lay) (g:Ga),x = .int .i64 t /\ t <= len1 /\ l.Good g /\ g.Ok T (16 * t) /\ Lv q1 0 g /\ l.gb=l0.gb /\ Own.aA [] (ho ++ l.heap g) W1 wr) (fun x _=>len1 - (intOf x).toNat)
    case atStart=>exact ⟨0,l,g,rfl,by omega,K.o.1,K.o.2.1,HL0.o,K.o.2.2.2.1,K.o.2.2.2.2.1⟩
    case round =>
     obtain ⟨t,l3,g3,rfl,ht,k3,o3,L3,hg3,tt3⟩:=hrel;have htI:(t:Int) <= 60:=by omega
     have K3:=hhh (And.intro k3 (And.intro o3 (And.intro L3 (And.intro hg3 tt3))));by_cases ht2:t < len1
     ·have ht2I:(t:Int) < (len1:Int):=by omega
      obtain ⟨x0,hx0,hc0⟩:=HR.o t ht2;have hbw:=BT.o _ _ B1.o (tt3.below (B:=W1.heap.size) (fun x hx=>by cases hx) (Nat.le_refl _));have hcx:wr.cell? (x0.add t)=some (.int .i64 (z1.getD t 0)):=(hbw.cell (nL hc0)).trans hc0;obtain ⟨q,hq⟩:∃ q,q=z1.getD t 0:=⟨_,rfl⟩;rw [<- hq] at hcx;subst hx0;obtain ⟨y,hy,hsl⟩:=Int64.slot q q1 (by omega) (by omega);have hyI:(y:Int) < (q1:Int):=by omega
      obtain ⟨x1,hx1,hc1⟩:=HR0.o y hy;have hcd:wr.cell? (x1.add y)=some (.string (z0.getD y ByteArray.empty)):=(hbw.cell (nL hc1)).trans hc1;obtain ⟨D,hD⟩:∃ D,D=z0.getD y ByteArray.empty:=⟨_,rfl⟩;have hDs:D.size <= maxLen:=by rw [hD];exact HSz.o y hy
      rw [<- hD] at hcd;subst hx1;have hci:=HCe.o wr tt3.has.left y hy;obtain ⟨ID,hID⟩:∃ ID,ID=y + q1 * y:=⟨_,rfl⟩;rw [<- hID] at hci;have HID:=hhh hID;have hIDs:ID <= 100:=by have:q1 * y <= 4 * 4:=Nat.mul_le_mul (by omega) (by omega);omega
      clear k3 o3 L3 hg3 tt3 hc0 hq hbw hc1 hD hID;rcases Nat.lt_or_ge 150 D.size with hD150 | hD150
      ·have hDI:(150:Int) < (D.size:Int):=by omega
       go_wp2_with (fail);go_ret;exact ⟨rfl,Bot.o K3.o.2.2.2.2⟩
      ·have hDI:(D.size:Int) <= 150:=by omega
       obtain ⟨s,hs,hts,hls⟩:=K3.o.2.2.1.live y (Nat.zero_le _) hy;have hfind:=K3.o.2.2.1.find y hy s hs;rw [<- HID.o] at hfind;have HS:=hhh (And.intro hs (And.intro hts (And.intro hls hfind)));have HYS:=hhh (show y < g3.slots.length by exact (List.getElem?_eq_some_iff.1 hs).1);obtain ⟨M,hM⟩:∃ M:Nat,min (t:Int) (D.size:Int)=(M:Int):=⟨(min (t:Int) (D.size:Int)).toNat,by omega⟩;have hMD:(M:Int) <= (D.size:Int):=by omega
       have HCk:=fun m (b:ByteArray) (hb:b.size <= 1000)=>sF (w:=wr.drewN m) K3.o.1 K3.o.2.1 (K3.o.2.2.2.2.has.right.drewN m) (ID:Int) b hb y HS.o.2.2.2 s HS.o.1
       have HHf:=oV K3.o.1 K3.o.2.1 K3.o.2.2.2.2.has.right (ID:Int) y HS.o.2.2.2 s HS.o.1;rw [K3.o.2.2.2.1] at HCk HHf;have HCk:=hhh HCk;have HHf:=hhh HHf;clear hs hts hls hfind;go_wp2_with (fail)
       ·go_region_with (refine (HCk.o _ _ (by rw [ByteArray.size_extract];omega)).mono ?_;rintro e7 W7 ⟨rfl,l7,g7,k7,o7,hs7,like7,hg7,t7⟩)
        all_goals
         have H7:=hhh (And.intro k7 (And.intro (o7.mono (show 16 * t <= 16 * (t + 1) by omega) (by omega)) (And.intro (K3.o.2.2.1.put y _ (Ses.aB9 HS.o.2.1 _ _) (aC9 HS.o.2.2.1 _ _) (Nat.zero_le _) HYS.o hs7 like7.n like7.ids) (And.intro hg7 ((K3.o.2.2.2.2.drewN _).trans (Own.aA.behind (r:=ho) t7 (K3.o.2.2.2.2.has.drewN _)))))));clear k7 o7 hs7 like7 hg7 t7;go_wp2;go_roundw
         case rel=>exact ⟨t + 1,l7,g7,by congr 1,by omega,H7.o.1,H7.o.2.1,H7.o.2.2.1,H7.o.2.2.2.1,H7.o.2.2.2.2⟩
         case measure=>simp [intOf];omega
       ·refine HHf.o.mono ?_
        rintro e7 W7 ⟨rfl,l7,g7,k7,o7,hs7,like7,hes7,hg7,t7⟩;have H7:=hhh (And.intro k7 (And.intro (o7.mono (show 16 * t <= 16 * (t + 1) by omega) (by omega)) (And.intro (K3.o.2.2.1.put y _ (Ses.xM HS.o.2.1) (aAd HS.o.2.2.1) (Nat.zero_le _) HYS.o hs7 like7.n like7.ids) (And.intro hg7 (K3.o.2.2.2.2.trans (Own.aA.behind (r:=ho) t7 K3.o.2.2.2.2.has))))));clear k7 o7 hs7 like7 hes7 hg7 t7;go_wp2;go_roundw
        case rel=>exact ⟨t + 1,l7,g7,by congr 1,by omega,H7.o.1,H7.o.2.1,H7.o.2.2.1,H7.o.2.2.2.1,H7.o.2.2.2.2⟩
        case measure=>simp [intOf];omega
       ·cases hn:g3.next with
        | none =>
         have HI:=aE9 K3.o.1 K3.o.2.1 K3.o.2.2.2.2.has.right hn;rw [K3.o.2.2.2.1] at HI;refine HI.mono ?_;rintro e7 W7 ⟨rfl,t7⟩;have H7:=hhh (K3.o.2.2.2.2.trans (Own.aA.behind (r:=ho) t7 K3.o.2.2.2.2.has));clear t7 HI hn;go_wp2;go_roundw
         case rel=>exact ⟨t + 1,l3,g3,by congr 1,by omega,K3.o.1,K3.o.2.1.mono (show 16 * t <= 16 * (t + 1) by omega) (by omega),K3.o.2.2.1,K3.o.2.2.2.1,H7.o⟩
         case measure=>simp [intOf];omega
        | some i9 =>
         obtain ⟨hi9,s9,hs9⟩:=K3.o.2.2.1.next K3.o.1.len i9 hn;obtain ⟨s8,hs8,hts8,hls8⟩:=K3.o.2.2.1.live i9 (Nat.zero_le _) hi9;have HRn:=aFr K3.o.1 K3.o.2.1 (by omega) K3.o.2.2.2.2.has.right (fun x hx=>Hbl.o K3.o.2.2.2.2 x (by rw [Own.blocks,List.map_append,List.mem_append];exact .inr hx)) (HTb.o _ (Bot.o K3.o.2.2.2.2)) i9 hn s8 hs8 hts8;rw [K3.o.2.2.2.1] at HRn;have HTL:=hhh (And.intro (Ses.oF (Pip.aU T) (some fun z=>g3.pu.lets i9 z.toNat) 16 s8 hts8) (And.intro (Ses.vX (Pip.aU T) (some fun z=>g3.pu.lets i9 z.toNat) 16 s8 hls8) (List.getElem?_eq_some_iff.1 hs8).1));clear hn hi9 hs9 hs8 hts8 hls8;refine HRn.mono ?_;rintro e7 W7 ⟨rfl,l7,g7,k7,o7,hs7,hn7,hid7,hmany7,hrest7,hnow7,htu7,hg7,t7⟩;have H7:=hhh (And.intro k7 (And.intro o7 (And.intro (K3.o.2.2.1.put i9 _ HTL.o.1 HTL.o.2.1 (Nat.zero_le _) HTL.o.2.2 hs7 hn7 hid7) (And.intro hg7 (K3.o.2.2.2.2.trans (Own.aA.behind (r:=ho) t7 K3.o.2.2.2.2.has))))));clear k7 o7 hs7 hn7 hid7 hmany7 hrest7 hnow7 htu7 hg7 t7 HRn;go_wp2;go_roundw
         case rel=>exact ⟨t + 1,l7,g7,by congr 1,by omega,H7.o.1,by rw [show 16 * (t + 1)=16 * t + 16 by omega];exact H7.o.2.1,H7.o.2.2.1,H7.o.2.2.2.1,H7.o.2.2.2.2⟩
         case measure=>simp [intOf];omega
     ·obtain rfl:t=len1:=by omega
      have O1:=hhh (K3.o.2.1.mono (show 16 * t <= 16 * t + 1 by omega) (by omega));have hbt:Own.Has wr ho:=K3.o.2.2.2.2.has.left;clear k3 o3 L3 hg3 tt3 hbt;go_wp2;go_loopw [112] (fun x wr=>∃ (i:Nat) (l:Lay) (g:Ga),x = .int .i64 i /\ i <= q1 /\ l.Good g /\ g.Ok T (16 * t + 1) /\ Lv q1 i g /\ l.gb=l0.gb /\ Own.aA [] (ho ++ l.heap g) W1 wr) (fun x _=>q1 - (intOf x).toNat)
      case atStart=>exact ⟨0,l3,g3,rfl,by omega,K3.o.1,O1.o,K3.o.2.2.1,K3.o.2.2.2.1,K3.o.2.2.2.2⟩
      case round =>
       obtain ⟨i,l4,g4,rfl,hi4,k4,o4,L4,hg4,tt4⟩:=hrel;have hiI:(i:Int) <= 4:=by omega
       have K4:=hhh (And.intro k4 (And.intro o4 (And.intro L4 (And.intro hg4 tt4))));by_cases hiq:i < q1
       ·have hiqI:(i:Int) < (q1:Int):=by omega
        have hci:=HCe.o wr tt4.has.left i hiq;obtain ⟨ID,hID⟩:∃ ID,ID=i + q1 * i:=⟨_,rfl⟩;rw [<- hID] at hci;obtain ⟨s,hs,hts,hls⟩:=L4.live i (Nat.le_refl _) hiq;have hfind:=L4.find i hiq s hs;rw [<- hID] at hfind;have hil:i < g4.slots.length:=(List.getElem?_eq_some_iff.1 hs).1;have HTo:=fU k4 tt4.has.right;have HCh:=fL k4 o4 tt4.has.right (ID:Int);rw [hfind,show g4.told (some i)=s.aN from fZ o4 i s hs] at HCh;have HCa:=zC k4 o4 tt4.has.right (ID:Int) i hfind s hs (by have:=xY k4 o4 i s hs;omega);rw [hg4] at HTo HCh HCa;have hSle:g4.pu.has.sum <= 8 * 40700:=by
         have h1:=Purse.aIi g4.pu.has 40700 (fun x hx=>by obtain ⟨j,hj,e⟩:=List.mem_iff_getElem.1 hx;rw [<- e];exact k4.pu.one j hj);have h2:=k4.pu.few;have h3:=k4.pu.same;exact Nat.le_trans h1 (Nat.mul_le_mul_right _ (by omega))
        have hCle:s.aN <= 40700:=by
         have ha:=o4.lS i s hs;have hip:i < g4.pu.has.length:=(List.getElem?_eq_some_iff.1 ha).1;have h1:=k4.pu.one i hip;rw [List.getElem?_eq_getElem hip] at ha;rw [Option.some.inj ha] at h1;exact h1
        obtain ⟨SI,hSI⟩:∃ z:Int,z=(g4.pu.has.sum:Int):=⟨_,rfl⟩;obtain ⟨CI,hCI⟩:∃ z:Int,z=(s.aN:Int):=⟨_,rfl⟩;rw [<- hSI] at HTo;rw [<- hCI] at HCh;have hS0:0 <= SI:=by omega
        have hS1:SI <= 325600:=by omega
        have hC0:0 <= CI:=by omega
        have hC1:CI <= 40700:=by omega
        have HTo:=hhh HTo;have HCh:=hhh HCh;have HCa:=hhh HCa;have HS:=hhh (And.intro hs (And.intro hts (And.intro hls (And.intro hil (And.intro hSI (And.intro hCI hID))))));clear k4 o4 L4 hg4 tt4 hs hts hls hfind hil hSle hCle hSI hCI hID;go_wp2_with (fail);refine HTo.o.mono ?_;rintro e5 W5 ⟨rfl,rfl⟩;go_wp2_with (fail);refine HCh.o.mono ?_;rintro e5 W5 ⟨rfl,rfl⟩;go_wp2_with (fail);refine HCa.o.mono ?_;rintro e6 W6 ⟨rfl,l6,g6,k6,o6,hs6,like6,hes6,hg6,t6⟩;have T6:=K4.o.2.2.2.2.trans (Own.aA.behind (r:=ho) t6 K4.o.2.2.2.2.has);have hs6i:g6.slots[i]? = some (some (s.halt 13)):=by rw [hs6];exact List.getElem?_set_self HS.o.2.2.2.1
        have L6:=K4.o.2.2.1.put i (s.halt 13) (aBc HS.o.2.1 13) (sH HS.o.2.2.1 13) (Nat.le_refl _) HS.o.2.2.2.1 hs6 like6.n like6.ids;have hfind6:=L6.find i hiq (s.halt 13) hs6i;rw [<- HS.o.2.2.2.2.2.2] at hfind6;have HTo6:=fU k6 T6.has.right;have HCh6:=fL k6 o6 T6.has.right (ID:Int);rw [hfind6,show g6.told (some i)=(s.halt 13).aN from fZ o6 i _ hs6i] at HCh6;have hsum:=aEu K4.o.2.1 o6 i s (s.halt 13) HS.o.1 hs6 (Ses.iY s 13);have hcha:=Ses.iY s 13;obtain ⟨SJ,hSJ⟩:∃ z:Int,z=(g6.pu.has.sum:Int):=⟨_,rfl⟩;obtain ⟨CJ,hCJ⟩:∃ z:Int,z=((s.halt 13).aN:Int):=⟨_,rfl⟩;rw [<- hSJ,hg6] at HTo6;rw [<- hCJ,hg6] at HCh6;have hSJ1:SJ <= SI:=by have:=HS.o.2.2.2.2.1;omega
        have hCJ1:CJ <= CI:=by have:=HS.o.2.2.2.2.2.1;omega
        have hSJ0:0 <= SJ:=by omega
        have hCJ0:0 <= CJ:=by omega
        have HWr:=aA6 k6 o6 T6.has.right (ID:Int) 1099511627776 i hfind6 (s.halt 13) hs6i (oS s 13) (aGp (sH HS.o.2.2.1 13) (oS s 13)) (by have:=xY k6 o6 i _ hs6i;omega);rw [hg6,show ((1099511627776:Nat):Int)=1099511627776 from rfl] at HWr;have HTo6:=hhh HTo6;have HCh6:=hhh HCh6;have HWr:=hhh HWr;have H6:=hhh (And.intro k6 (And.intro o6 (And.intro L6 (And.intro T6 (And.intro hs6i (List.getElem?_eq_some_iff.1 hs6i).1)))));clear k6 o6 hs6 like6 hes6 hg6 t6 T6 hs6i L6 hfind6 hsum hcha hSJ hCJ HTo HCh HCa;go_wp2_with (fail);refine HTo6.o.mono ?_;rintro e7 W7 ⟨rfl,rfl⟩;go_wp2_with (fail);refine HCh6.o.mono ?_;rintro e7 W7 ⟨rfl,rfl⟩;go_wp2_with (fail);refine HWr.o.mono ?_;rintro e7 W7 ⟨rfl,l7,g7,k7,o7,hs7,hn7,hid7,hmany7,hrest7,htu7,hnow7,hg7,t7⟩;have T7:=H6.o.2.2.2.1.trans (Own.aA.behind (r:=ho) t7 H6.o.2.2.2.1.has);have L7:=H6.o.2.2.1.gone H6.o.2.2.2.2.2 hs7 hn7 hid7;have hnf:=L7.aIf i hiq (L7.free i (Nat.lt_succ_self i) hiq);rw [<- HS.o.2.2.2.2.2.2] at hnf;have HCh7:=fL k7 o7 T7.has.right (ID:Int);have HLv7:=vJ k7 T7.has.right;rw [hnf,show g7.told none=0 from rfl] at HCh7;rw [aAi L7 hiq] at HLv7;obtain ⟨LN,hLN⟩:∃ LN:Nat,LN=q1 - (i + 1):=⟨_,rfl⟩;rw [<- hLN] at HLv7;have hLNI:(LN:Int)=(q1:Int) - (i:Int) - 1:=by omega
        have hLNb:((LN:Int) != (q1:Int) - (i:Int) - 1)=false:=by rw [bne_eq_false_iff_eq];exact hLNI
        have hl7:l7.gb=l0.gb:=hg7;rw [hl7] at HCh7 HLv7;have HLNI:=hhh hLNI;have HCh7:=hhh HCh7;have HLv7:=hhh HLv7;have H7:=hhh (And.intro k7 (And.intro o7 (And.intro L7 (And.intro hl7 T7))));clear k7 o7 hs7 hn7 hid7 hmany7 hrest7 htu7 hnow7 hg7 t7 T7 L7 hnf hl7 HTo6 HCh6 HWr hLN hLNI;go_wp2_with (fail);refine HCh7.o.mono ?_;rintro e8 W8 ⟨rfl,rfl⟩;go_wp2_with (fail);refine HLv7.o.mono ?_;rintro e8 W8 ⟨ad8,c8,ho8,rfl,s8,t8⟩;have T8:=hhh (H7.o.2.2.2.2.trans (Own.aA.behind (r:=ho) t8.forget H7.o.2.2.2.2.has));clear s8 t8;go_wp2;go_roundw
        case rel=>exact ⟨i + 1,l7,g7,by congr 1,by omega,H7.o.1,H7.o.2.1,H7.o.2.2.1,H7.o.2.2.2.1,T8.o⟩
        case measure=>simp [intOf];omega
       ·obtain rfl:i=q1:=by omega
        have HTo:=fU k4 tt4.has.right;rw [hg4,xV L4 o4] at HTo;have HTo:=hhh HTo;clear k4 o4 L4 hg4 tt4;go_wp2_with (fail);refine HTo.o.mono ?_;rintro e5 W5 ⟨rfl,rfl⟩;go_wp2;go_ret;exact ⟨rfl,Bot.o K4.o.2.2.2.2⟩
 all_goals
  go_enter Tryz.func3,Tryz.ntmps3;go_wp2_with (fail);refine HA.o.mono ?_;rintro e W1 ⟨rfl,b1⟩;have B1:=hhh b1;clear b1;go_wp2;go_ret;exact ⟨rfl,B1.o⟩
end Go.Proofs.YtfheacchdfdeiaaGreat.gateReturns
