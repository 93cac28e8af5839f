/- Texts of the walk, joined. -/
import Derived.Test.YtfheacchdfdeiaaGreatM09
import Derived.Test.YtfheacchdfdeiaaGreatM39
import Derived.Test.YtfheacchdfdeiaaGreatM40
import Derived.Test.YtfheacchdfdeiaaGreatM42
import Derived.Test.YtfheacchdfdeiaaGreatM44
set_option maxRecDepth 100000
set_option maxHeartbeats 8000000
namespace Go.Proofs.YtfheacchdfdeiaaGreat
section
open Go.RowKit
namespace Gate
theorem iP (l:List Nat) (x:Nat):l.take (l.idxOf x) ++ l.drop (l.idxOf x + 1)=l.erase x:=by
 induction l with
 | nil=>simp
 | cons y l ih =>
  by_cases h:y=x
  ·subst h;simp
  ·rw [show (y :: l).idxOf x=l.idxOf x + 1 by rw [List.idxOf_cons,show (y == x)=false from beq_eq_false_iff_ne.mpr h];rfl,List.take_succ_cons,List.drop_succ_cons,List.cons_append,ih,List.erase_cons_tail (by simpa using h)]
def Ga.kW (g:Ga) (i x:Nat) (es:Timer.Ents):Ga :=
 { n:=g.n,slots:=g.slots.set i none,ids:=g.ids,many:=g.many,pu:=((g.pu.put i x).put i 0).jO i false,turns:=g.turns.erase i,es:=es,now:=g.now }
theorem Ga.Ok.kW {T:Esc.bI} {N:Nat} {g:Ga} (o:g.Ok T N) (i x c:Nat) (r:Timer.Rec) (A B:Timer.Ents) (s:Se) (hs:g.slots[i]? = some (some s)) (he:g.es.map Prod.fst=(A ++ (i,c,r) :: B).map Prod.fst):(g.kW i x (A ++ B)).Ok T N:=by
 have hl:i < g.slots.length:=(List.getElem?_eq_some_iff.1 hs).1;have hne:∀ j u,(g.kW i x (A ++ B)).slots[j]? = some (some u) -> i ≠ j /\ g.slots[j]? = some (some u):=by
  intro j u hj;by_cases hij:i=j
  ·subst hij
   rw [show (g.kW i x (A ++ B)).slots=g.slots.set i none from rfl,List.getElem?_set_self hl] at hj;simp at hj
  ·exact ⟨hij,by rw [show (g.kW i x (A ++ B)).slots=g.slots.set i none from rfl,List.getElem?_set_ne hij] at hj;exact hj⟩
 have hno:∀ j,(g.kW i x (A ++ B)).slots[j]? = some none -> i=j \/ g.slots[j]? = some none:=by
  intro j hj;by_cases hij:i=j
  ·exact .inl hij
  ·exact .inr (by rw [show (g.kW i x (A ++ B)).slots=g.slots.set i none from rfl,List.getElem?_set_ne hij] at hj;exact hj)
 have hk:(A ++ (i,c,r) :: B).map Prod.fst=A.map Prod.fst ++ i :: B.map Prod.fst:=by simp
 rw [hk] at he;have hon:=o.once;rw [he] at hon;have hni:i ∉ (A ++ B).map Prod.fst:=by
  rw [List.map_append,List.mem_append];have h1:=List.nodup_append.1 hon;rintro (h2 | h2)
  ·exact h1.2.2 i h2 i mcs rfl
  ·exact (List.nodup_cons.1 h1.2.1).1 h2
 refine ⟨o.pos,(List.length_set ..).trans o.len,?_,?_,?_,?_,?_,?_,o.ids,?_,?_,?_,?_,o.many,o.cap⟩
 ·intro j u hj
  obtain ⟨h1,h2⟩:=hne j u hj;have:=o.timed j u h2;rw [he] at this;show j ∈ (A ++ B).map Prod.fst;rw [List.map_append,List.mem_append];rcases List.mem_append.1 this with h3 | h3
  ·exact .inl h3
  ·rcases List.mem_cons.1 h3 with h4 | h4
   ·exact absurd h4.symm h1
   ·exact .inr h4
 ·intro j hj
  rcases hno j hj with h1 | h1
  ·subst h1;exact hni
  ·have:=o.untimed j h1
   rw [he] at this;show j ∉ (A ++ B).map Prod.fst;rw [List.map_append,List.mem_append];rintro (h3 | h3)
   ·exact this (List.mem_append_left _ h3)
   ·exact this (List.mem_append_right _ (mcm _ h3))
 ·show ((A ++ B).map Prod.fst).Nodup
  rw [List.map_append];have h1:=List.nodup_append.1 hon;exact List.nodup_append.2 ⟨h1.1,(List.nodup_cons.1 h1.2.1).2,fun a ha b hb=>h1.2.2 a ha b (mcm _ hb)⟩
 ·show (g.pu.has.set i x).set i 0=(g.slots.set i none).map chargeO
  rw [List.set_set,o.has,List.map_set];rfl
 ·show g.pu.opn.set i false=(g.slots.set i none).map Option.isSome
  rw [o.opn,List.map_set];rfl
 ·intro u hu
  rcases List.mem_or_eq_of_mem_set hu with h1 | h1
  ·exact o.fK u h1
  ·simp at h1
 ·intro j hj
  show j ∉ g.turns.erase i;rcases hno j hj with h1 | h1
  ·subst h1;exact o.turnsOnce.not_mem_erase
  ·intro h2;exact o.turns j h1 (List.mem_of_mem_erase h2)
 ·exact o.turnsOnce.erase i
 ·intro j u hj
  obtain ⟨h1,h2⟩:=hne j u hj;exact (List.mem_erase_of_ne (fun e=>h1 e.symm)).2 (o.turnsLive j u h2)
 ·exact Nat.le_trans (List.length_erase_le ..) o.few
section
variable {T:Esc.bI} {N:Nat} {l:Lay} {g:Ga} {w:World}
theorem aCs {a h1 h2 : Own.Heap} {u v : World} (t : Own.aA a (({ l with hs := h1 ++ h2 } : Lay).heap g) u v) (j : Nat) (x : Value) (hj : j < l.vs.length) (S : List (Option Se)) :
  Own.aA a (({ l with vs:=l.vs.set j x,hs:=h1 ++ h2 }:Lay).heap { g with slots:=S }) u (v.setCell ⟨l.sb,j,none⟩ x):=by
 have t1:=Own.aA.setAt (A:=[_]) t j x hj;exact t1
theorem aCw (l:Lay) (g:Ga) (h1 h0 h2:Own.Heap):(({ l with hs:=h1 ++ (h0 ++ h2) }:Lay).heap g).Perm ((({ l with hs:=h1 ++ h2 }:Lay).heap g) ++ h0):=by
 refine Own.aE _ _ fun x=>?_
 unfold Lay.heap Lay.row Lay.lU Lay.lX Lay.dQ;simp only [List.count_append,List.count_cons];omega
end
end Gate
end
section
open Go.RowKit
namespace Ses
open Pip
section
variable {s:St} {sb:Nat} {h:Own.Heap} {w:World}
theorem aB5 (i : Is s sb h) (hw : Own.Has w h) (n : Nat) (ho : s.out.length ≤ 41000) :
  Calls Tryz.prog 50 #[.pointer (some ⟨sb,0,none⟩),.int .i64 (n:Int)] w fun e w'=>e = .returned (.string ⟨(s.out.take n).toArray⟩) /\ ∃ h',Is (s.write (n:Int)) sb h' /\ Own.aA h h' w w':=by
 obtain ⟨rb,bb,r,lv,pv,hq,hp,a,rfl⟩:=i;have HT:=hhh (Queue.aDx (eT hw) a.q 1 rfl n ho);have Hw:=hhh (And.intro hw a);clear hw a ho;go_enter Tryz.func50,Tryz.ntmps50;go_wp2_with (fail);refine HT.o.mono ?_;rintro e W1 ⟨rfl,lv',hq',q',t1⟩;have H:=hhh (And.intro q' t1);clear q' t1 HT;go_wp2;go_ret;have e1:(s.write (n:Int)).out=s.out.drop n:=rfl;exact ⟨rfl,_,⟨rb,bb,r,lv',pv,hq',hp,⟨Hw.o.2.f,Hw.o.2.l,Hw.o.2.a,H.o.1,Hw.o.2.p⟩,rfl⟩,eI H.o.2 Hw.o.1⟩
end
end Ses
namespace Gate
theorem xY {T:Esc.bI} {N:Nat} {l:Lay} {g:Ga} (k:l.Good g) (o:g.Ok T N) (i:Nat) (s:Se) (hs:g.slots[i]? = some (some s)):s.out.length <= 41000:=by
 have ha:=o.lS i s hs;have hip:i < g.pu.has.length:=(List.getElem?_eq_some_iff.1 ha).1;have h1:=k.pu.one i hip;rw [List.getElem?_eq_getElem hip] at ha;rw [Option.some.inj ha] at h1;have:s.out.length <= s.aN:=by unfold Ses.St.aN;omega
 omega
section
variable {T:Esc.bI} {N:Nat} {l:Lay} {g:Ga} {w:World}
theorem aA6 (k : l.Good g) (o : g.Ok T N) (h : Own.Has w (l.heap g)) (id : Int) (m : Nat) (i : Nat) (hf : g.find id = some i) (s : Se) (hs : g.slots[i]? = some (some s)) (hend : s.ended = true) (hout : s.out ≠ []) (hlen : s.out.length ≤ m) :
  Calls Tryz.prog 16 #[.pointer (some ⟨l.gb,0,none⟩),.int .i64 id,.int .i64 (m:Int)] w fun e w'=>e = .returned (.string ⟨s.out.toArray⟩) /\
   ∃ l' g',Lay.Good l' g' /\ g'.Ok T N /\ g'.slots=g.slots.set i none /\ g'.n=g.n /\ g'.ids=g.ids /\ g'.many=g.many /\ g'.pu.rest=g.pu.rest /\ g'.turns=g.turns.erase i /\ g'.now=g.now /\ l'.gb=l.gb /\ Own.aA (l.heap g) (l'.heap g') w w':=by
 have HO:=hhh (pG k h id o.pos);rw [hf] at HO;have hil:i < g.n:=by rw [<- k.len];exact (List.getElem?_eq_some_iff.1 hs).1
 have ho2:=o.iB i s hs;have hsm:=o.fK s (List.mem_of_getElem? hs);obtain ⟨bb,h1,h0,h2,hv,a2,a3,a4,a5⟩:=k.slots.dX i s hs;have HF:=Ses.aB5 a3 (fK h h1 h0 h2 a2) m (xY k o i s hs);rw [List.take_of_length_le hlen] at HF;obtain ⟨s',hs'⟩:∃ s',s'=s.write (m:Int):=⟨_,rfl⟩;rw [<- hs'] at HF;have hout':s'.out=[]:=by rw [hs'];exact List.drop_of_length_le hlen
 have hsm':s'.Good T N:=by rw [hs'];exact hsm.write _
 have hcap:=o.cap;have hfit:Purse.over s'.aN <= g.pu.left + Purse.over (g.pu.has.getD i 0):=by
  rw [fZ o i s hs,hs'];have:=Ses.uF s m;unfold Purse.over;omega
 have hcl:s'.closed=true:=by
  unfold Ses.St.closed;rw [hout',hs'];show (s.ended && true)=true;rw [hend];rfl
 have HV:=hhh hv;have HH:=hhh h
 have HC:=hhh (fun (h0':Own.Heap) (is':Ses.Is s' bb h0') W (hW:Own.Has W (({ l with hs:=h1 ++ (h0' ++ h2) }:Lay).heap (g.dT i s'))) =>
  cF (k.dT i s' _ (a4 _ h0' is')) hW i s' (by show (g.slots.set i (some s'))[i]? = _;rw [List.getElem?_set_self (by rw [k.len];exact hil)]) ho2 hsm' hcap hfit)
 obtain ⟨A,c,r,B,he,hA⟩:=iT g.es i (o.timed i s hs);have hB:∀ e ∈ B,e.1 ≠ i:=by
  intro e hb hei;have h9:=o.once;rw [he,List.map_append,List.map_cons] at h9;exact (List.nodup_cons.1 (List.nodup_append.1 h9).2.1).1 (by show i ∈ B.map Prod.fst;rw [<- hei];exact List.mem_map_of_mem hb)
 obtain ⟨S,hS⟩:∃ S:ByteArray,S=⟨s.out.toArray⟩:=⟨_,rfl⟩;have hSne:S.toList.isEmpty=false:=by
  rw [ByteArray.toList_eq,hS]
  cases hso:s.out with
  | nil=>exact absurd hso hout
  | cons x l=>rfl
 rw [<- hS] at HF |-;have HF2:=hhh HF;have HA:=hhh (And.intro a2 (And.intro hil (And.intro he (And.intro hA (And.intro hB (And.intro a5 (And.intro hcl (And.intro o (And.intro k (And.intro hs ho2))))))))));clear k h hcap hfit ho2 hsm hsm' hv a2 a3 a4 a5 hf hs o hil hend hout hlen HF hs' hout' hcl he hA hB hS;go_enter Tryz.func16,Tryz.ntmps16;go_wp2_with (fail);refine HO.o.mono ?_;rintro e W1 ⟨rfl,rfl⟩;simp only [mR,HV.o];go_wp2_with (fail);refine HF2.o.mono ?_;rintro e W2 ⟨rfl,h0',is',ht⟩;have t1:Own.aA (l.heap g) (({ l with hs:=h1 ++ (h0' ++ h2) }:Lay).heap (g.dT i s')) _ W2 :=
  Own.aA.focus HH.o (dV l g h1 h0 h2 HA.o.1) (fun _=>ht) (dV _ _ h1 h0' h2 rfl)
 have IS:=hhh is';go_wp2_with (fail);refine (HC.o h0' is' W2 t1.has).mono ?_;rintro e W3 ⟨⟨v3,rfl⟩,k3,t3⟩;have T3:=hhh (t1.trans t3);have K3:=hhh k3;clear t1 t3 k3 ht is' HC HF2 HO;have HT4:=hhh (Timer.rT (es:=g.es) A B c r i HA.o.2.2.1 HA.o.2.2.2.1 (by have:=HA.o.2.2.2.2.2.2.2.2.1.small;have:=HA.o.2.1;omega) (T3.o.has.perm (bU _ _)).left K3.o.timer 5 rfl);go_wp2_with (fail);refine HT4.o.mono ?_;rintro e W4 ⟨rfl,ht4,m4,t4⟩;have T4:=hhh (T3.o.trans (Own.aA.focus T3.o.has (bU _ _) (fun _=>t4) (bU { l with hs:=h1 ++ (h0' ++ h2),ht:=ht4 } ((g.dT i s').cV i s'.aN))));have M4:=hhh m4;clear t4 m4 HT4 T3;have HCl:=hhh (Ses.yH IS.o (fK T4.o.has h1 h0' h2 rfl));rw [HA.o.2.2.2.2.2.2.1] at HCl;go_wp2_with (fail);refine HCl.o.mono ?_;rintro e W5 ⟨rfl,rfl⟩;have hip:i < (g.pu.put i s'.aN).has.length:=by
  show i < (g.pu.has.set i _).length;rw [List.length_set,HA.o.2.2.2.2.2.2.2.2.1.pun];exact HA.o.2.1
 have ho9:(g.pu.put i s'.aN).opn[i]'(K3.o.pu.same ▸ hip)=true:=by
  have h9:(g.pu.put i s'.aN).opn[i]? = some true:=HA.o.2.2.2.2.2.2.2.2.2.2;rw [List.getElem?_eq_getElem (K3.o.pu.same ▸ hip)] at h9;exact Option.some.inj h9
 have e3:W5.cell? ⟨l.gb,3,none⟩=some (.pointer (some ⟨l.pb,0,none⟩)):=cell T4.o.has 3 _ rfl;have HP6:=hhh (Purse.eZ (dQ T4.o.has) K3.o.pu i hip ho9);clear HCl hip ho9;go_wp2_with (fail);refine HP6.o.mono ?_;rintro e W6 ⟨⟨v6,rfl⟩,t6⟩;have T6:=hhh (T4.o.trans (Own.aA.focus T4.o.has (eH _ _) (fun _=>t6) (eH { l with hs:=h1 ++ (h0' ++ h2),ht:=ht4 } { (g.dT i s').cV i s'.aN with pu:=((g.pu.put i s'.aN).put i 0).jO i false })));clear t6 HP6 e3 T4;have e4:W6.cell? ⟨l.gb,4,none⟩=some (.pointer (some ⟨l.wb,0,none⟩)):=cell T6.o.has 4 _ rfl;have HW7:=Wheel.oX K3.o.wheel (T6.o.has.perm (eU _ _)).left (by have:=HA.o.2.2.2.2.2.2.2.1.few;show g.turns.length <= 1000;omega) i (HA.o.2.2.2.2.2.2.2.1.turnsLive i s HA.o.2.2.2.2.2.2.2.2.2.1);rw [iP] at HW7;have HW7:=hhh HW7;go_wp2_with (fail);refine HW7.o.mono ?_;rintro e W7 ⟨rfl,hw7,wi7,t7⟩;have T7:=hhh (T6.o.trans (Own.aA.focus T6.o.has (eU _ _) (fun _=>t7) (eU { l with hs:=h1 ++ (h0' ++ h2),ht:=ht4,hw:=hw7 } { (g.dT i s').cV i s'.aN with pu:=((g.pu.put i s'.aN).put i 0).jO i false,turns:=g.turns.erase i })));have WI7:=hhh wi7;clear t7 HW7 e4 T6 wi7;have HT8:=hhh (Timer.pD A B c { r with active:=(g.now:Int) } i rfl HA.o.2.2.2.1 HA.o.2.2.2.2.1 (by have:=HA.o.2.2.2.2.2.2.2.2.1.small;have:=HA.o.2.1;omega) (T7.o.has.perm (bU _ _)).left M4.o 5 rfl);go_wp2_with (fail);refine HT8.o.mono ?_;rintro e W8 ⟨rfl,ht8,m8,t8⟩;have T8:=T7.o.trans (Own.aA.focus T7.o.has (bU _ _) (fun _=>t8) (bU { l with hs:=h1 ++ (h0' ++ h2),ht:=ht8,hw:=hw7 } { (g.dT i s').cV i s'.aN with pu:=((g.pu.put i s'.aN).put i 0).jO i false,turns:=g.turns.erase i }));have M8:=hhh m8;have T9:=Own.aA.drop (T8.perm (List.Perm.refl _) (aCw { l with ht:=ht8,hw:=hw7 } _ h1 h0' h2));clear t8 HT8 T7 m8 T8;have hiv:i < l.vs.length:=by rw [HA.o.2.2.2.2.2.2.2.2.1.uR];exact HA.o.2.1
 have e0:W8.cell? ⟨l.gb,0,none⟩=some (.slice (some ⟨l.sb,0,none⟩) g.n g.n):=cell T9.has 0 _ rfl;have es:W8.cell? ⟨l.sb,i,none⟩=some (.pointer (some ⟨bb,0,none⟩)):=jS T9.has i _ HV.o;have fs:W8.frozen? ⟨l.sb,i,none⟩=false:=aE1 T9.has i;have T10:=hhh (aCs (l:={ l with ht:=ht8,hw:=hw7 }) T9 i (.pointer none) hiv (g.slots.set i none));have hI:(i:Int) < (g.n:Int):=by have:=HA.o.2.1;omega
 clear T9 hiv;go_wp2;go_ret;have P:=K3.o.pu;refine ⟨rfl,{ l with vs:=l.vs.set i (.pointer none),hs:=h1 ++ h2,ht:=ht8,hw:=hw7 },g.kW i s'.aN (A ++ B),?_,HA.o.2.2.2.2.2.2.2.1.kW i s'.aN c r A B s HA.o.2.2.2.2.2.2.2.2.2.1 (by rw [HA.o.2.2.1]),rfl,rfl,rfl,rfl,rfl,rfl,rfl,rfl,?_⟩
 ·exact ⟨(List.length_set ..).trans HA.o.2.2.2.2.2.2.2.2.1.len,HA.o.2.2.2.2.2.2.2.2.1.ids,(List.length_set ..).trans ((List.length_set ..).trans HA.o.2.2.2.2.2.2.2.2.1.pun),(P.put i 0 (by show i < (g.pu.has.set i _).length;rw [List.length_set,HA.o.2.2.2.2.2.2.2.2.1.pun];exact HA.o.2.1) (Nat.le_trans (Nat.le_of_eq rfl) (Nat.zero_le _))).jO i false,WI7.o,M8.o,HA.o.2.2.2.2.2.1⟩
 ·exact T10.o
end
end Gate
end
end Go.Proofs.YtfheacchdfdeiaaGreat
