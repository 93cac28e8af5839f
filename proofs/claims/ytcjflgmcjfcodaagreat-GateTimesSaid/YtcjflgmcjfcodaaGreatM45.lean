/- Texts of the walk, joined. -/
import Derived.Test.YtcjflgmcjfcodaaGreatM41
import Derived.Test.YtcjflgmcjfcodaaGreatM43
import Derived.Test.YtcjflgmcjfcodaaGreatM44
set_option maxRecDepth 100000
set_option maxHeartbeats 8000000
namespace Go.Proofs.Tryz end Go.Proofs.Tryz
namespace Go.Proofs.YtcjflgmcjfcodaaGreat
open Go.Proofs.Tryz
section
open Go.RowKit
namespace Gate
open Purse (ints)
def Ga.dC (g:Ga) (i:Nat):Ga :=
 match g.slots[i]? with
 | some (some s)=>(g.cT i (s.halt 12)).bZ i (s.halt 12).aH
 | _=>g
def Ga.fD (g:Ga):List Nat:=Timer.srt (Timer.cF (g.now + 1) g.es)
def Ga.fU (g:Ga):Ga:={ g with now:=g.now + 1,es:=Timer.stay (g.now + 1) g.es }
def Ga.tick (g:Ga):Ga:=g.fD.foldl Ga.dC g.fU
theorem pR {g:Ga} {i:Nat} {s:Se} (h:g.slots[i]? = some (some s)):g.dC i=(g.cT i (s.halt 12)).bZ i (s.halt 12).aH:=by
 unfold Ga.dC;rw [h]
theorem halted (s:Se) (e:Nat):(s.halt e).ended=true:=by
 unfold Ses.St.halt;split
 ·assumption
 ·rfl
theorem aA5 {g:Ga} (k i:Nat) (h:∀ s,g.slots[i]? = some (some s) -> s.ended=true):∀ s,(g.dC k).slots[i]? = some (some s) -> s.ended=true:=by
 intro s hs;unfold Ga.dC at hs;split at hs
 ·rename_i t ht
  by_cases hki:k=i
  ·subst hki
   have hl:k < g.slots.length:=(List.getElem?_eq_some_iff.1 ht).1;rw [show ((g.cT k (t.halt 12)).bZ k (t.halt 12).aH).slots=g.slots.set k (some (t.halt 12)) from rfl,List.getElem?_set_self hl] at hs;obtain rfl:t.halt 12=s:=by simpa using hs
   exact halted _ _
  ·rw [show ((g.cT k (t.halt 12)).bZ k (t.halt 12).aH).slots=g.slots.set k (some (t.halt 12)) from rfl,List.getElem?_set_ne hki] at hs
   exact h s hs
 ·exact h s hs
theorem aAr (g:Ga) (i:Nat):∀ s,(g.dC i).slots[i]? = some (some s) -> s.ended=true:=by
 intro s hs;unfold Ga.dC at hs;split at hs
 ·rename_i t ht
  have hl:i < g.slots.length:=(List.getElem?_eq_some_iff.1 ht).1;rw [show ((g.cT i (t.halt 12)).bZ i (t.halt 12).aH).slots=g.slots.set i (some (t.halt 12)) from rfl,List.getElem?_set_self hl] at hs;obtain rfl:t.halt 12=s:=by simpa using hs
  exact halted _ _
 ·rename_i h1
  exact absurd hs (h1 s)
theorem aEm (l:List Nat) (i:Nat):∀ g:Ga,(∀ s,g.slots[i]? = some (some s) -> s.ended=true) -> ∀ s,(l.foldl Ga.dC g).slots[i]? = some (some s) -> s.ended=true:=by
 induction l with
 | nil=>intro g h;exact h
 | cons k l ih=>intro g h;exact ih _ (aA5 k i h)
theorem aGp (l:List Nat):∀ (g:Ga) (i:Nat),i ∈ l -> ∀ s,(l.foldl Ga.dC g).slots[i]? = some (some s) -> s.ended=true:=by
 induction l with
 | nil=>intro g i hi;exact absurd hi (by simp)
 | cons k l ih =>
  intro g i hi;rcases List.mem_cons.1 hi with rfl | h1
  ·exact aEm l i _ (aAr g i)
  ·exact ih _ i h1
theorem zR (g:Ga) (i:Nat):(g.dC i).n=g.n /\ (g.dC i).ids=g.ids /\ (g.dC i).now=g.now /\ (g.dC i).es=g.es:=by
 unfold Ga.dC;split <;> exact ⟨rfl,rfl,rfl,rfl⟩
theorem aF4 (l:List Nat):∀ g:Ga,(l.foldl Ga.dC g).n=g.n /\ (l.foldl Ga.dC g).ids=g.ids /\ (l.foldl Ga.dC g).now=g.now /\ (l.foldl Ga.dC g).es=g.es:=by
 induction l with
 | nil=>intro g;exact ⟨rfl,rfl,rfl,rfl⟩
 | cons k l ih =>
  intro g;obtain ⟨a1,a2,a3,a4⟩:=zR g k;obtain ⟨b1,b2,b3,b4⟩:=ih (g.dC k);exact ⟨b1.trans a1,b2.trans a2,b3.trans a3,b4.trans a4⟩
theorem uP {now i:Nat} {es:Timer.Ents}:i ∈ Timer.cF now es ↔ ∃ e ∈ es,e.1=i /\ Timer.late now e.2.2=true:=by
 unfold Timer.cF;simp only [List.mem_map,List.mem_filter];constructor
 ·rintro ⟨e,⟨h1,h2⟩,h3⟩;exact ⟨e,h1,h3,h2⟩
 ·rintro ⟨e,h1,h3,h2⟩;exact ⟨e,⟨h1,h2⟩,h3⟩
def Ga.vC (g:Ga) (es:Timer.Ents):Ga:={ g with es:=es }
theorem Ga.Ok.aIf {T:Esc.bA} {N:Nat} {g:Ga} (o:g.Ok T N) (h:g.now + 1 <= 100000):((g.fU).vC g.es).Ok T N :=
 ⟨o.pos,o.len,o.timed,o.untimed,o.once,o.has,o.opn,o.fA,o.ids,o.turns,o.turnsOnce,o.turnsLive,o.few,o.many,o.cap,fun e he=>⟨(o.fresh e he).1,(o.fresh e he).2.aIf⟩,h⟩
theorem Ga.Ok.stay {T:Esc.bA} {N:Nat} {G:Ga} {es0:Timer.Ents} (o:(G.vC es0).Ok T N) (h:∀ i ∈ Timer.cF G.now es0,∀ s,G.slots[i]? = some (some s) -> s.ended=true) (he:G.es=Timer.stay G.now es0):G.Ok T N:=by
 have hsub:∀ e ∈ G.es,e ∈ es0:=by
  intro e h1;rw [he] at h1;exact (List.mem_filter.1 h1).1
 refine ⟨o.pos,o.len,fun i s hs hse=>?_,fun i hs hi=>?_,?_,o.has,o.opn,o.fA,o.ids,o.turns,o.turnsOnce,o.turnsLive,o.few,o.many,o.cap,fun e h1=>o.fresh e (hsub e h1),o.now⟩
 ·obtain ⟨e,h1,rfl⟩:=List.mem_map.1 (o.timed i s hs hse)
  refine List.mem_map_of_mem ?_;rw [he];refine List.mem_filter.2 ⟨h1,?_⟩
  cases hl:Timer.late G.now e.2.2 with
  | false=>rfl
  | true =>
   have:=h e.1 (uP.2 ⟨e,h1,rfl,hl⟩) s hs;rw [hse] at this
   cases this
 ·obtain ⟨e,h1,rfl⟩:=List.mem_map.1 hi
  exact o.untimed e.1 hs (List.mem_map_of_mem (hsub e h1))
 ·have h1:(es0.map Prod.fst).Nodup:=o.once
  rw [he];exact h1.sublist (List.filter_sublist.map Prod.fst)
section
variable {T:Esc.bA} {N:Nat} {l:Lay} {g:Ga} {w:World}
theorem dJ.pos {ss:List (Option Se)} {i:Nat} (hi:i < ss.length) (h:ss[i]? ≠ some none):∃ s,ss[i]? = some (some s):=by
 rw [List.getElem?_eq_getElem hi] at h |-
 cases hs:ss[i] with
 | none=>rw [hs] at h;exact absurd rfl h
 | some s=>exact ⟨s,rfl⟩
theorem aF0 (S : Timer.gV) (k : l.Good g) (o : g.Ok T N) (hN : 1 ≤ N) (h : Own.Has w (l.heap g)) (hnow : g.now + 1 ≤ 100000) :
  Calls prog 10 #[.pointer (some ⟨l.gb,0,none⟩)] w fun e w'=>∃ ad c ho,e = .returned (.slice ad g.fD.length c) /\
   Own.Slc 3 (ints (g.fD.map fun i=>g.ids.getD i 0)) (.slice ad g.fD.length c) ho /\
   ∃ l',Lay.Good l' g.tick /\ g.tick.Ok T N /\ l'.gb=l.gb /\ Own.aA (l.heap g) (ho ++ l'.heap g.tick) w w':=by
 have h8:=k.small;have HT:=hhh (Timer.aIq S (h.perm (bE _ _)).left k.timer 5 rfl (by have:=o.now;omega) (fun e he=>⟨by have:=(o.fresh e he).1;omega,(o.fresh e he).2⟩) o.once);have HH:=hhh h;have K:=hhh (ai k (ai o (ai hN hnow)));obtain ⟨i0,hi,hz0,hz1,hz2⟩:=info_parts (P:=prog) (e:=3) (z:=.int .i64 0) (size:=1) (bytes:=8) (by kernel_rfl);have Hi:=hhh (ai hi (ai hz0 (ai hz1 hz2)));obtain ⟨LI,hLI⟩:∃ LI,LI=g.fD:=⟨_,rfl⟩;have hLK:(Timer.cF (g.now + 1) g.es).length=LI.length:=by rw [hLI];exact (Timer.gX _).symm
 have HLI:=hhh hLI
 have HLm:=hhh (show ∀ i ∈ LI,i < g.n /\ i ∈ g.es.map Prod.fst from fun i hi=>by
  rw [hLI] at hi;obtain ⟨e,h1,h2,_⟩:=uP.1 ((Timer.fY _).mem_iff.1 hi)
  exact ⟨h2 ▸ (o.fresh e h1).1,h2 ▸ List.mem_map_of_mem h1⟩)
 have HLt:=hhh (show g.tick=LI.foldl Ga.dC g.fU by rw [hLI];rfl);rw [<- hLI];clear hi hz0 hz1 hz2 k o hN h hnow hLI;go_enter func10,ntmps10;go_wp2_with (fail);refine HT.o.mono ?_;rintro e W1 ⟨ad,c,ho,ht1,rfl,hs1,m1,t1⟩;rw [hLK] at hs1 |-
 have T1:=hhh (show Own.aA (l.heap g) (ho ++ ({ l with ht:=ht1 }:Lay).heap g.fU) w W1 from
  Own.aA.focus HH.o (bE _ _) (fun _=>t1) (((List.Perm.refl ho).append (bE ({ l with ht:=ht1 }:Lay) g.fU)).trans (List.Perm.of_eq (List.append_assoc ..).symm)))
 have K1:=hhh (show ({ l with ht:=ht1 }:Lay).Good g.fU from ⟨K.o.1.len,K.o.1.ids,K.o.1.pun,K.o.1.pu,K.o.1.wheel,m1,K.o.1.slots⟩);have S1:=hhh hs1;clear t1 m1 hs1 HT hLK;go_wp2
 go_loopw [3, 13] (fun v i wr => ∃ (j : Nat) (l' : Lay) (ad2 : Option Addr) (c2 : Nat) (ho2 : Own.Heap), v = .slice ad2 j c2 ∧ i = .int .i64 j ∧ j ≤ LI.length ∧ l'.Good ((LI.take j).foldl Ga.dC g.fU) ∧ (((LI.take j).foldl Ga.dC g.fU).vC g.es).Ok T N ∧ l'.gb = l.gb ∧
   Own.Slc 3 (ints ((LI.take j).map fun i=>g.ids.getD i 0)) (.slice ad2 j c2) ho2 /\ Own.aA (l.heap g) (ho2 ++ (ho ++ l'.heap ((LI.take j).foldl Ga.dC g.fU))) w wr) (fun _ i _=>LI.length - (intOf i).toNat)
 case atStart=>exact ⟨0,_,none,0,[],rfl,rfl,by omega,K1.o,K.o.2.1.aIf K.o.2.2.2,rfl,Own.Slc.bare none rfl,T1.o⟩
 case round =>
  obtain ⟨j,l',ad2,c2,ho2,rfl,rfl,hj,k',o',hgb,hs2,ht2⟩:=hrel;have HGb:=hhh hgb;clear hgb;obtain ⟨LJ,hLJ⟩:∃ LJ,LJ=(LI.take j).map fun i=>g.ids.getD i 0:=⟨_,rfl⟩
  rw [<- hLJ] at hs2;have HLJ:=hhh hLJ;clear hLJ;obtain ⟨G,hG⟩:∃ G,G=(LI.take j).foldl Ga.dC g.fU:=⟨_,rfl⟩;rw [<- hG] at k' o' ht2;have hrest:=aF4 (LI.take j) g.fU;rw [<- hG] at hrest;have HG:=hhh (ai hG hrest);have K2:=hhh (ai k' (ai o' (ai hs2 ht2)));by_cases hjk:j < LI.length
  ·have hjI:(j:Int) < (LI.length:Int):=by omega
   obtain ⟨i,hi⟩:∃ i,i=LI[j]:=⟨_,rfl⟩;have hmem:i ∈ LI:=by rw [hi];exact List.getElem_mem hjk
   have hin:i < g.n:=(HLm.o i hmem).1;have hn':G.n=g.n:=hrest.1;obtain ⟨s,hs⟩:=dJ.pos (ss:=G.slots) (i:=i) (by rw [k'.len,hn'];exact hin) (fun h9=>o'.untimed i h9 (HLm.o i hmem).2);have hF1:(LI.take (j + 1)).foldl Ga.dC g.fU=(G.cT i (s.halt 12)).bZ i (s.halt 12).aH:=by
    rw [List.take_succ_eq_append_getElem hjk,List.foldl_append,<- hG,<- hi];exact pR hs
   have hW:=ht2.has.right.right;have c0:=cell hW 0 _ rfl;have c1:=cell hW 1 _ rfl;rw [HGb.o,hn'] at c0 c1;have hsS:=S1.o;have hnl:(Timer.dS (Timer.srt (Timer.cF (g.now + 1) g.es))).length=LI.length:=by
    unfold Timer.dS;rw [List.length_map,HLI.o];rfl
   obtain ⟨hb,p1,spare,hv1,hv2,_⟩:=Timer.zX hsS (by rw [hnl];omega);injection hv1 with ha1 ha2 ha3
   subst ha1;have hcell:wr.cell? ⟨hb,p1.length + j,none⟩=some (.int .i64 (i:Int)):=by
    refine ht2.has.cell hb 3 (p1 ++ (Timer.dS (Timer.srt (Timer.cF (g.now + 1) g.es)) ++ spare)) (by rw [hv2];simp) (p1.length + j) _ ?_;rw [List.getElem?_append_right (by omega),Nat.add_sub_cancel_left,List.getElem?_append_left (by rw [hnl];exact hjk),hi];have h9:(Timer.dS (Timer.srt (Timer.cF (g.now + 1) g.es)))=LI.map (fun k:Nat=>Value.int .i64 (k:Int)):=by rw [HLI.o];rfl
    rw [h9];simp [hjk]
   obtain ⟨bb,h1,h0,h2,hv,a2,a3,a4,a5⟩:=k'.slots.dT i s hs;have cs:=kJ hW i _ hv;have hii:i < G.ids.length:=by rw [k'.ids,hn'];exact hin
   have hinI:(i:Int) < (g.n:Int):=by omega
   have hsm:=o'.fA s (List.mem_of_getElem? hs);have ho2':=o'.jK i s hs;have hcap:=o'.cap;have hol:s.out.length <= 41000:=by
    have ha:G.pu.has[i]? = some s.aH:=o'.nJ i s hs;have hip:i < G.pu.has.length:=(List.getElem?_eq_some_iff.1 ha).1;have h9:=k'.pu.one i hip;rw [List.getElem?_eq_getElem hip] at ha;rw [Option.some.inj ha] at h9;have:s.out.length <= s.aH:=by unfold Ses.St.aH;omega
    omega
   have HF:=hhh (fun W (hW:Own.Has W h0)=>Ses.qV a3 hW 12 (by omega));obtain ⟨s',hs'⟩:∃ s',s'=s.halt 12:=⟨_,rfl⟩;have hsm':s'.Good T N:=by rw [hs'];exact Ses.uG hsm (by have:=K.o.2.2.1;omega) 12
   have hfit:Purse.over s'.aH <= G.pu.left + Purse.over (G.pu.has.getD i 0):=by
    have h9:G.pu.has.getD i 0=s.aH:=jZ o' i s hs;rw [h9,hs'];have:(s.halt 12).aH <= s.aH:=Ses.oB s 12;unfold Purse.over;omega
   have hil:i < G.n:=by rw [hn'];exact hin
   have HC:=hhh (fun (h0':Own.Heap) (is':Ses.Is s' bb h0') W (hW:Own.Has W (({ l' with hs:=h1 ++ (h0' ++ h2) }:Lay).heap (G.cT i s'))) =>
    cK (k'.cT i s' _ (a4 _ h0' is')) hW i s' (by show (G.slots.set i (some s'))[i]? = _;rw [List.getElem?_set_self (by rw [k'.len];exact hil)]) ho2' hsm' hcap hfit)
   have HK:=hhh (show (((G.cT i s').bZ i s'.aH).vC g.es).Ok T N from o'.cT i s s' hs hsm' (by rw [hs',halted];exact fun h=>by cases h));rw [<- hs'] at hF1 HF;have HF1:=hhh hF1;have HV:=hhh (ai hv (ai a2 (ai hil hii)));have H0:=hhh (fA hW h1 h0 h2 a2)
   have HY:=hhh (show (LI.take (j + 1)).map (fun i=>g.ids.getD i 0)=LJ ++ [G.ids[i]'hii] by
    rw [HLJ.o,List.take_succ_eq_append_getElem hjk,List.map_append,<- hi];have h9:G.ids=g.ids:=hrest.2.1;have h10:i < g.ids.length:=by rw [<- h9];exact hii
    simp [List.getD_eq_getElem?_getD,h10,h9])
   have hml:LJ.length=j:=by rw [HLJ.o,List.length_map,List.length_take];omega
   have hj8:j <= 1000:=by
    have h9:LI.Nodup:=by
     rw [HLI.o];refine (Timer.fY _).nodup_iff.2 ?_;exact K.o.2.1.once.sublist (List.filter_sublist.map Prod.fst)
    have h1:=Timer.len_le g.n LI h9 (fun k hk=>(HLm.o k hk).1);omega
   obtain ⟨y,hy⟩:∃ y,y=G.ids[i]'hii:=⟨_,rfl⟩;rw [<- hy] at HY;have HYy:=hhh hy;clear k' o' hs2 ht2 hG hF1 hW hv2 hsS ha2 ha3 hnl hi hmem hs hv a2 a3 a4 a5 hsm ho2' hcap hol hsm' hfit hs' hy hrest;go_wp2_with (fail);refine (HF.o _ H0.o).mono ?_;rintro e W2 ⟨rfl,h0',is',ht⟩;have t2:Own.aA (l'.heap G) (({ l' with hs:=h1 ++ (h0' ++ h2) }:Lay).heap (G.cT i s')) _ W2 :=
    Own.aA.focus K2.o.2.2.2.has.right.right (dH l' G h1 h0 h2 HV.o.2.1) (fun _=>ht) (dH _ _ h1 h0' h2 rfl)
   have T2:=hhh (K2.o.2.2.2.trans (Own.aA.behind (r:=ho2) (Own.aA.behind (r:=ho) t2 K2.o.2.2.2.has.right) K2.o.2.2.2.has));clear t2 ht H0 HF;go_wp2_with (fail);rw [<- HGb.o];refine (HC.o h0' is' W2 T2.o.has.right.right).mono ?_;rintro e W3 ⟨⟨v3,rfl⟩,k3,t3⟩;rw [HGb.o];have T3:=hhh (T2.o.trans (Own.aA.behind (r:=ho2) (Own.aA.behind (r:=ho) t3 T2.o.has.right) T2.o.has));have K3:=hhh k3;clear t3 k3 is' HC;have y1:W3.cell? ⟨l'.gb,1,none⟩=some (.slice (some ⟨l'.ib,0,none⟩) G.n G.n):=cell T3.o.has.right.right 1 _ rfl;have y2:=oC T3.o.has.right.right i HV.o.2.2.2;replace y2:W3.cell? ⟨l'.ib,i,none⟩=some (.int .i64 (y:Int)):=by rw [HYy.o];exact y2
   rw [HGb.o,hn'] at y1;go_wp2_with (at_builtin;go_loud (refine Own.aX rfl _ _ 34 rfl 3 i0 (.int .i64 0) 8 underlying34 Hi.o.1 Hi.o.2.1 Hi.o.2.2.1 Hi.o.2.2.2 rfl (.slice ad2 j c2) (ints LJ) j ((List.length_map ..).trans hml) ho2 (ho ++ ({ l' with hs:=h1 ++ (h0' ++ h2) }:Lay).heap ((G.cT i s').bZ i s'.aH)) rfl K2.o.2.2.1 T3.o.has (.int .i64 (y:Int)) rfl rfl ?c1 ?c2 ?_))
   case c1=>simp only [maxLen];omega
   case c2=>omega
   intro ad' c' h' W4 hs4 ht4;have S4:=hhh hs4;have T4:=hhh (T3.o.trans ht4);clear hs4 ht4;go_wp2;go_roundw
   case rel =>
    refine ⟨j + 1,{ l' with hs:=h1 ++ (h0' ++ h2) },ad',c',h',rfl,by go_num,by omega,by rw [HF1.o];exact K3.o,by rw [HF1.o];exact HK.o,HGb.o,?_,by rw [HF1.o];exact T4.o⟩;have h9:ints ((LI.take (j + 1)).map fun i=>g.ids.getD i 0)=ints LJ ++ [.int .i64 (y:Int)]:=by rw [HY.o];simp [ints]
    rw [h9];exact S4.o
   case measure=>simp [intOf];omega
  ·have hjK:j=LI.length:=by omega
   have hjI:¬ (j:Int) < (LI.length:Int):=by omega
   have HJ:=hhh hjK;clear k' o' hs2 ht2 hG hrest hjK;go_wp2;go_ret;have hG2:G=g.tick:=by rw [HG.o.1,HLt.o,List.take_of_length_le (by have:=HJ.o;omega)]
   refine ⟨ad2,c2,by have h9:=HJ.o;subst h9;rfl,ho2,?_,l',hG2 ▸ K2.o.1,?_,HGb.o,?_⟩
   ·have h9:=K2.o.2.2.1
    rw [HLJ.o,List.take_of_length_le (by have:=HJ.o;omega),HJ.o] at h9;exact h9
   ·rw [<- hG2]
    refine K2.o.2.1.stay (fun i hi s hs=>?_) (by rw [HG.o.2.2.2.1];exact HG.o.2.2.2.2);rw [hG2,HLt.o] at hs;refine aGp LI _ i ?_ s hs;rw [HLI.o];refine (Timer.fY _).mem_iff.2 ?_;rw [HG.o.2.2.2.1] at hi;exact hi
   ·rw [<- hG2]
    refine Own.aA.forget (b:=ho) (K2.o.2.2.2.perm (List.Perm.refl _) ?_);refine Own.aE _ _ fun x=>?_
    simp only [List.count_append];omega
end
end Gate
end
end Go.Proofs.YtcjflgmcjfcodaaGreat
