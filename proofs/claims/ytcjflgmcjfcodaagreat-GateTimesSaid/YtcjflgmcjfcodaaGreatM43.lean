/- Texts of the walk, joined. -/
import Derived.Test.YtcjflgmcjfcodaaGreatM40
import Derived.Test.YtcjflgmcjfcodaaGreatM41
import Derived.Test.YtcjflgmcjfcodaaGreatM42
set_option maxRecDepth 100000
set_option maxHeartbeats 8000000
namespace Go.Proofs.Tryz end Go.Proofs.Tryz
namespace Go.Proofs.YtcjflgmcjfcodaaGreat
open Go.Proofs.Tryz
section
open Go.RowKit
namespace Gate
theorem kG (l:List Nat) (x:Nat):l.take (l.idxOf x) ++ l.drop (l.idxOf x + 1)=l.erase x:=by
 induction l with
 | nil=>simp
 | cons y l ih =>
  by_cases h:y=x
  ·subst h;simp
  ·rw [show (y :: l).idxOf x=l.idxOf x + 1 by rw [List.idxOf_cons,show (y == x)=false from beq_eq_false_iff_ne.mpr h];rfl,List.take_succ_cons,List.drop_succ_cons,List.cons_append,ih,List.erase_cons_tail (by simpa using h)]
def Ga.mL (g:Ga) (i x:Nat) (es:Timer.Ents):Ga :=
 { n:=g.n,slots:=g.slots.set i none,ids:=g.ids,many:=g.many,pu:=((g.pu.put i x).put i 0).cO i false,turns:=g.turns.erase i,es:=es,now:=g.now }
theorem aH9 (es:Timer.Ents) (i k:Nat):k ∈ (Timer.gone es i).map Prod.fst ↔ k ∈ es.map Prod.fst /\ k ≠ i:=by
 unfold Timer.gone;simp only [List.mem_map,List.mem_filter];constructor
 ·rintro ⟨e,⟨h1,h2⟩,rfl⟩
  exact ⟨⟨e,h1,rfl⟩,by simpa using h2⟩
 ·rintro ⟨⟨e,h1,rfl⟩,h2⟩
  exact ⟨e,⟨h1,by simpa using h2⟩,rfl⟩
def Ga.fO (g:Ga) (i:Nat):Timer.Ents:=Timer.gone (Timer.bI g.es i g.now) i
theorem Ga.Ok.mL {T:Esc.bA} {N:Nat} {g:Ga} (o:g.Ok T N) (i x:Nat) (s:Se) (hs:g.slots[i]? = some (some s)):(g.mL i x (g.fO i)).Ok T N:=by
 have hl:i < g.slots.length:=(List.getElem?_eq_some_iff.1 hs).1;have hne:∀ j u,(g.mL i x (g.fO i)).slots[j]? = some (some u) -> i ≠ j /\ g.slots[j]? = some (some u):=by
  intro j u hj;by_cases hij:i=j
  ·subst hij
   rw [show (g.mL i x (g.fO i)).slots=g.slots.set i none from rfl,List.getElem?_set_self hl] at hj;simp at hj
  ·exact ⟨hij,by rw [show (g.mL i x (g.fO i)).slots=g.slots.set i none from rfl,List.getElem?_set_ne hij] at hj;exact hj⟩
 have hno:∀ j,(g.mL i x (g.fO i)).slots[j]? = some none -> i=j \/ g.slots[j]? = some none:=by
  intro j hj;by_cases hij:i=j
  ·exact .inl hij
  ·exact .inr (by rw [show (g.mL i x (g.fO i)).slots=g.slots.set i none from rfl,List.getElem?_set_ne hij] at hj;exact hj)
 have hmk:∀ j,j ∈ (g.fO i).map Prod.fst ↔ j ∈ g.es.map Prod.fst /\ j ≠ i:=by
  intro j;unfold Ga.fO;rw [aH9,Timer.gL]
 refine ⟨o.pos,(List.length_set ..).trans o.len,?_,?_,?_,?_,?_,?_,o.ids,?_,?_,?_,?_,o.many,o.cap,?_,o.now⟩
 ·intro j u hj hue
  obtain ⟨h1,h2⟩:=hne j u hj;exact (hmk j).2 ⟨o.timed j u h2 hue,fun e=>h1 e.symm⟩
 ·intro j hj h3
  have h4:=(hmk j).1 h3;rcases hno j hj with h1 | h1
  ·exact h4.2 h1.symm
  ·exact o.untimed j h1 h4.1
 ·have h1:((Timer.bI g.es i g.now).map Prod.fst).Nodup:=by rw [Timer.gL];exact o.once
  exact h1.sublist (List.filter_sublist.map Prod.fst)
 ·show (g.pu.has.set i x).set i 0=(g.slots.set i none).map chargeO
  rw [List.set_set,o.has,List.map_set];rfl
 ·show g.pu.opn.set i false=(g.slots.set i none).map Option.isSome
  rw [o.opn,List.map_set];rfl
 ·intro u hu
  rcases List.mem_or_eq_of_mem_set hu with h1 | h1
  ·exact o.fA u h1
  ·simp at h1
 ·intro j hj
  show j ∉ g.turns.erase i;rcases hno j hj with h1 | h1
  ·subst h1;exact o.turnsOnce.not_mem_erase
  ·intro h2;exact o.turns j h1 (List.mem_of_mem_erase h2)
 ·exact o.turnsOnce.erase i
 ·intro j u hj
  obtain ⟨h1,h2⟩:=hne j u hj;exact (List.mem_erase_of_ne (fun e=>h1 e.symm)).2 (o.turnsLive j u h2)
 ·exact Nat.le_trans (List.length_erase_le ..) o.few
 ·intro e he
  exact Timer.nX (fun e he=>(o.fresh e he).1) (fun e he=>(o.fresh e he).2) e (List.mem_filter.1 he).1
theorem aIn {T:Esc.bA} {N:Nat} {l:Lay} {g:Ga} (k:l.Good g) (o:g.Ok T N) (i:Nat) (s:Se) (hs:g.slots[i]? = some (some s)):s.out.length <= 41000:=by
 have ha:=o.nJ i s hs;have hip:i < g.pu.has.length:=(List.getElem?_eq_some_iff.1 ha).1;have h1:=k.pu.one i hip;rw [List.getElem?_eq_getElem hip] at ha;rw [Option.some.inj ha] at h1;have:s.out.length <= s.aH:=by unfold Ses.St.aH;omega
 omega
section
variable {T:Esc.bA} {N:Nat} {l:Lay} {g:Ga} {w:World}
theorem aF1 {a h1 h2 : Own.Heap} {u v : World} (t : Own.aA a (({ l with hs := h1 ++ h2 } : Lay).heap g) u v) (j : Nat) (x : Value) (hj : j < l.vs.length) (S : List (Option Se)) :
  Own.aA a (({ l with vs:=l.vs.set j x,hs:=h1 ++ h2 }:Lay).heap { g with slots:=S }) u (v.setCell ⟨l.sb,j,none⟩ x):=by
 have t1:=Own.aA.setAt (A:=[_]) t j x hj;exact t1
theorem aEu (l:Lay) (g:Ga) (h1 h0 h2:Own.Heap):(({ l with hs:=h1 ++ (h0 ++ h2) }:Lay).heap g).Perm ((({ l with hs:=h1 ++ h2 }:Lay).heap g) ++ h0):=by
 refine Own.aE _ _ fun x=>?_
 unfold Lay.heap Lay.row Lay.nA Lay.mW Lay.eF;simp only [List.count_append,List.count_cons];omega
theorem aB8 (k : l.Good g) (o : g.Ok T N) (h : Own.Has w (l.heap g)) (id m : Int) (i : Nat) (hf : g.find id = some i) (s : Se) (hs : g.slots[i]? = some (some s)) (hend : s.ended = true) (hout : s.out ≠ []) (hlen : s.out.length ≤ m.toNat) :
  Calls prog 12 #[.pointer (some ⟨l.gb,0,none⟩),.int .i64 id,.int .i64 m] w fun e w'=>e = .returned (.string ⟨s.out.toArray⟩) /\
   ∃ l' g',Lay.Good l' g' /\ g'.Ok T N /\ g'.slots=g.slots.set i none /\ g'.n=g.n /\ g'.ids=g.ids /\ g'.many=g.many /\ g'.pu.rest=g.pu.rest /\ g'.turns=g.turns.erase i /\ g'.now=g.now /\ g'.es=g.fO i /\ l'.gb=l.gb /\ Own.aA (l.heap g) (l'.heap g') w w':=by
 have HO:=hhh (lP k h id o.pos);rw [hf] at HO;have hil:i < g.n:=by rw [<- k.len];exact (List.getElem?_eq_some_iff.1 hs).1
 have ho2:=o.jK i s hs;have hsm:=o.fA s (List.mem_of_getElem? hs);obtain ⟨bb,h1,h0,h2,hv,a2,a3,a4,a5⟩:=k.slots.dT i s hs;have HF:=Ses.aCh a3 (fA h h1 h0 h2 a2) m (aIn k o i s hs);rw [List.take_of_length_le hlen] at HF;obtain ⟨s',hs'⟩:∃ s',s'=s.write m:=⟨_,rfl⟩;rw [<- hs'] at HF;have hout':s'.out=[]:=by rw [hs'];exact List.drop_of_length_le hlen
 have hsm':s'.Good T N:=by rw [hs'];exact hsm.write _
 have hcap:=o.cap;have hfit:Purse.over s'.aH <= g.pu.left + Purse.over (g.pu.has.getD i 0):=by
  rw [jZ o i s hs,hs'];have:=Ses.oX s m;unfold Purse.over;omega
 have hcl:s'.closed=true:=by
  unfold Ses.St.closed;rw [hout',hs'];show (s.ended && true)=true;rw [hend];rfl
 have HV:=hhh hv;have HH:=hhh h
 have HC:=hhh (fun (h0':Own.Heap) (is':Ses.Is s' bb h0') W (hW:Own.Has W (({ l with hs:=h1 ++ (h0' ++ h2) }:Lay).heap (g.cT i s'))) =>
  cK (k.cT i s' _ (a4 _ h0' is')) hW i s' (by show (g.slots.set i (some s'))[i]? = _;rw [List.getElem?_set_self (by rw [k.len];exact hil)]) ho2 hsm' hcap hfit)
 have hone:=o.once;obtain ⟨S,hS⟩:∃ S:ByteArray,S=⟨s.out.toArray⟩:=⟨_,rfl⟩;have hSne:S.toList.isEmpty=false:=by
  rw [ByteArray.toList_eq,hS]
  cases hso:s.out with
  | nil=>exact absurd hso hout
  | cons x l=>rfl
 rw [<- hS] at HF |-;have HF2:=hhh HF;have HA:=hhh (ai a2 (ai hil (ai hone (ai trivial (ai trivial (ai a5 (ai hcl (ai o (ai k (ai hs ho2))))))))));clear k h hcap hfit ho2 hsm hsm' hv a2 a3 a4 a5 hf hs o hil hend hout hlen HF hs' hout' hcl hone hS;go_enter func12,ntmps12;go_wp2_with (fail);refine HO.o.mono ?_;rintro e W1 ⟨rfl,rfl⟩;simp only [kE,HV.o];go_wp2_with (fail);refine HF2.o.mono ?_;rintro e W2 ⟨rfl,h0',is',ht⟩;have t1:Own.aA (l.heap g) (({ l with hs:=h1 ++ (h0' ++ h2) }:Lay).heap (g.cT i s')) _ W2 :=
  Own.aA.focus HH.o (dH l g h1 h0 h2 HA.o.1) (fun _=>ht) (dH _ _ h1 h0' h2 rfl)
 have IS:=hhh is';go_wp2_with (fail);refine (HC.o h0' is' W2 t1.has).mono ?_;rintro e W3 ⟨⟨v3,rfl⟩,k3,t3⟩;have T3:=hhh (t1.trans t3);have K3:=hhh k3;clear t1 t3 k3 ht is' HC HF2 HO;have HT4:=hhh (Timer.nK (es:=g.es) i HA.o.2.2.1 (by have:=HA.o.2.2.2.2.2.2.2.2.1.small;have:=HA.o.2.1;omega) (T3.o.has.perm (bE _ _)).left K3.o.timer 5 rfl);go_wp2_with (fail);refine HT4.o.mono ?_;rintro e W4 ⟨⟨v4,rfl⟩,ht4,m4,t4⟩;have T4:=hhh (T3.o.trans (Own.aA.focus T3.o.has (bE _ _) (fun _=>t4) (bE { l with hs:=h1 ++ (h0' ++ h2),ht:=ht4 } ((g.cT i s').bZ i s'.aH))));have M4:=hhh m4;clear t4 m4 HT4 T3;have HCl:=hhh (Ses.lK IS.o (fA T4.o.has h1 h0' h2 rfl));rw [HA.o.2.2.2.2.2.2.1] at HCl;go_wp2_with (fail);refine HCl.o.mono ?_;rintro e W5 ⟨rfl,rfl⟩;have hip:i < (g.pu.put i s'.aH).has.length:=by
  show i < (g.pu.has.set i _).length;rw [List.length_set,HA.o.2.2.2.2.2.2.2.2.1.pun];exact HA.o.2.1
 have ho9:(g.pu.put i s'.aH).opn[i]'(K3.o.pu.same ▸ hip)=true:=by
  have h9:(g.pu.put i s'.aH).opn[i]? = some true:=HA.o.2.2.2.2.2.2.2.2.2.2;rw [List.getElem?_eq_getElem (K3.o.pu.same ▸ hip)] at h9;exact Option.some.inj h9
 have e3:W5.cell? ⟨l.gb,3,none⟩=some (.pointer (some ⟨l.pb,0,none⟩)):=cell T4.o.has 3 _ rfl;have HP6:=hhh (Purse.fS (eF T4.o.has) K3.o.pu i hip ho9);clear HCl hip ho9;go_wp2_with (fail);refine HP6.o.mono ?_;rintro e W6 ⟨⟨v6,rfl⟩,t6⟩;have T6:=hhh (T4.o.trans (Own.aA.focus T4.o.has (eS _ _) (fun _=>t6) (eS { l with hs:=h1 ++ (h0' ++ h2),ht:=ht4 } { (g.cT i s').bZ i s'.aH with pu:=((g.pu.put i s'.aH).put i 0).cO i false })));clear t6 HP6 e3 T4;have e4:W6.cell? ⟨l.gb,4,none⟩=some (.pointer (some ⟨l.wb,0,none⟩)):=cell T6.o.has 4 _ rfl;have HW7:=Wheel.qR K3.o.wheel (T6.o.has.perm (fN _ _)).left (by have:=HA.o.2.2.2.2.2.2.2.1.few;show g.turns.length <= 1000;omega) i (HA.o.2.2.2.2.2.2.2.1.turnsLive i s HA.o.2.2.2.2.2.2.2.2.2.1);rw [kG] at HW7;have HW7:=hhh HW7;go_wp2_with (fail);refine HW7.o.mono ?_;rintro e W7 ⟨rfl,hw7,wi7,t7⟩;have T7:=hhh (T6.o.trans (Own.aA.focus T6.o.has (fN _ _) (fun _=>t7) (fN { l with hs:=h1 ++ (h0' ++ h2),ht:=ht4,hw:=hw7 } { (g.cT i s').bZ i s'.aH with pu:=((g.pu.put i s'.aH).put i 0).cO i false,turns:=g.turns.erase i })));have WI7:=hhh wi7;clear t7 HW7 e4 T6 wi7;have HT8:=hhh (Timer.aGu (es:=Timer.bI g.es i g.now) i (by rw [Timer.gL];exact HA.o.2.2.1) (by have:=HA.o.2.2.2.2.2.2.2.2.1.small;have:=HA.o.2.1;omega) (T7.o.has.perm (bE _ _)).left M4.o 5 rfl);go_wp2_with (fail);refine HT8.o.mono ?_;rintro e W8 ⟨⟨v8,rfl⟩,ht8,m8,t8⟩;have T8:=T7.o.trans (Own.aA.focus T7.o.has (bE _ _) (fun _=>t8) (bE { l with hs:=h1 ++ (h0' ++ h2),ht:=ht8,hw:=hw7 } { (g.cT i s').bZ i s'.aH with pu:=((g.pu.put i s'.aH).put i 0).cO i false,turns:=g.turns.erase i }));have M8:=hhh m8;have T9:=Own.aA.drop (T8.perm (List.Perm.refl _) (aEu { l with ht:=ht8,hw:=hw7 } _ h1 h0' h2));clear t8 HT8 T7 m8 T8;have hiv:i < l.vs.length:=by rw [HA.o.2.2.2.2.2.2.2.2.1.wJ];exact HA.o.2.1
 have e0:W8.cell? ⟨l.gb,0,none⟩=some (.slice (some ⟨l.sb,0,none⟩) g.n g.n):=cell T9.has 0 _ rfl;have es:W8.cell? ⟨l.sb,i,none⟩=some (.pointer (some ⟨bb,0,none⟩)):=kJ T9.has i _ HV.o;have fs:W8.frozen? ⟨l.sb,i,none⟩=false:=aHp T9.has i;have T10:=hhh (aF1 (l:={ l with ht:=ht8,hw:=hw7 }) T9 i (.pointer none) hiv (g.slots.set i none));have hI:(i:Int) < (g.n:Int):=by have:=HA.o.2.1;omega
 clear T9 hiv;go_wp2;go_ret;have P:=K3.o.pu;refine ⟨rfl,{ l with vs:=l.vs.set i (.pointer none),hs:=h1 ++ h2,ht:=ht8,hw:=hw7 },g.mL i s'.aH (g.fO i),?_,HA.o.2.2.2.2.2.2.2.1.mL i s'.aH s HA.o.2.2.2.2.2.2.2.2.2.1,rfl,rfl,rfl,rfl,rfl,rfl,rfl,rfl,rfl,?_⟩
 ·exact ⟨(List.length_set ..).trans HA.o.2.2.2.2.2.2.2.2.1.len,HA.o.2.2.2.2.2.2.2.2.1.ids,(List.length_set ..).trans ((List.length_set ..).trans HA.o.2.2.2.2.2.2.2.2.1.pun),(P.put i 0 (by show i < (g.pu.has.set i _).length;rw [List.length_set,HA.o.2.2.2.2.2.2.2.2.1.pun];exact HA.o.2.1) (Nat.le_trans (Nat.le_of_eq rfl) (Nat.zero_le _))).cO i false,WI7.o,M8.o,HA.o.2.2.2.2.2.1⟩
 ·exact T10.o
theorem aA0 (k : l.Good g) (o : g.Ok T N) (h : Own.Has w (l.heap g)) (id m : Int) (i : Nat) (hf : g.find id = some i) (s : Se) (hs : g.slots[i]? = some (some s)) (hcl : (s.write m).closed = false) :
  Calls prog 12 #[.pointer (some ⟨l.gb,0,none⟩),.int .i64 id,.int .i64 m] w fun e w'=>e = .returned (.string ⟨(s.out.take m.toNat).toArray⟩) /\
   ∃ l' g',Lay.Good l' g' /\ g'.Ok T N /\ g'.slots=g.slots.set i (some (s.write m)) /\ g.aMi g' /\ g'.es=(if s.out.take m.toNat=[] then g.es else Timer.bI g.es i g.now) /\ l'.gb=l.gb /\ Own.aA (l.heap g) (l'.heap g') w w':=by
 have HO:=hhh (lP k h id o.pos);rw [hf] at HO;have hil:i < g.n:=by rw [<- k.len];exact (List.getElem?_eq_some_iff.1 hs).1
 have ho2:=o.jK i s hs;have hsm:=o.fA s (List.mem_of_getElem? hs);obtain ⟨bb,h1,h0,h2,hv,a2,a3,a4,a5⟩:=k.slots.dT i s hs;have HF:=Ses.aCh a3 (fA h h1 h0 h2 a2) m (aIn k o i s hs);obtain ⟨s',hs'⟩:∃ s',s'=s.write m:=⟨_,rfl⟩;rw [<- hs'] at HF hcl |-;have hsm':s'.Good T N:=by rw [hs'];exact hsm.write _
 have hcap:=o.cap;have hfit:Purse.over s'.aH <= g.pu.left + Purse.over (g.pu.has.getD i 0):=by
  rw [jZ o i s hs,hs'];have:=Ses.oX s m;unfold Purse.over;omega
 have HV:=hhh hv;have HH:=hhh h
 have HC:=hhh (fun (h0':Own.Heap) (is':Ses.Is s' bb h0') W (hW:Own.Has W (({ l with hs:=h1 ++ (h0' ++ h2) }:Lay).heap (g.cT i s'))) =>
  cK (k.cT i s' _ (a4 _ h0' is')) hW i s' (by show (g.slots.set i (some s'))[i]? = _;rw [List.getElem?_set_self (by rw [k.len];exact hil)]) ho2 hsm' hcap hfit)
 have HK:=hhh (o.cT i s s' hs hsm' (by rw [hs'];exact fun h9=>h9));have hone:=o.once;obtain ⟨S,hS⟩:∃ S:ByteArray,S=⟨(s.out.take m.toNat).toArray⟩:=⟨_,rfl⟩;rw [<- hS] at HF |-;have HF2:=hhh HF;have HA:=hhh (ai a2 (ai hil (ai hone (ai trivial (ai hcl k)))));obtain ⟨E,hE⟩:∃ E,E=S.toList.isEmpty:=⟨_,rfl⟩;have hEt:E=(s.out.take m.toNat).isEmpty:=by rw [hE,hS,ByteArray.toList_eq]
 clear k h ho2 hsm hsm' hv a2 a3 a4 a5 hf hs o hil HF hs' hcl hone hS hcap hfit
 cases E with
 | true =>
  have hE2:=hE.symm;have HE:=hhh (List.isEmpty_iff.1 hEt.symm);clear hEt;clear hE;go_enter func12,ntmps12;go_wp2_with (fail);refine HO.o.mono ?_;rintro e W1 ⟨rfl,rfl⟩;simp only [kE,HV.o];go_wp2_with (fail);refine HF2.o.mono ?_;rintro e W2 ⟨rfl,h0',is',ht⟩;have t1:Own.aA (l.heap g) (({ l with hs:=h1 ++ (h0' ++ h2) }:Lay).heap (g.cT i s')) _ W2 :=
   Own.aA.focus HH.o (dH l g h1 h0 h2 HA.o.1) (fun _=>ht) (dH _ _ h1 h0' h2 rfl)
  have IS:=hhh is';go_wp2_with (fail);refine (HC.o h0' is' W2 t1.has).mono ?_;rintro e W3 ⟨⟨v3,rfl⟩,k3,t3⟩;have T3:=hhh (t1.trans t3);have K3:=hhh k3;clear t1 t3 k3 ht is' HC HF2 HO;have HCl:=hhh (Ses.lK IS.o (fA T3.o.has h1 h0' h2 rfl));rw [HA.o.2.2.2.2.1] at HCl;go_wp2_with (fail);refine HCl.o.mono ?_;rintro e W5 ⟨rfl,rfl⟩;go_wp2;go_ret;exact ⟨rfl,_,_,K3.o,HK.o,rfl,⟨rfl,rfl,rfl,rfl,rfl,rfl⟩,by first | rfl | exact (ifp HE.o).symm,rfl,T3.o⟩
 | false =>
  have hE2:=hE.symm;have HE:=hhh (show ¬ s.out.take m.toNat=[] from fun h9=>by rw [h9] at hEt;cases hEt);clear hEt;clear hE;go_enter func12,ntmps12;go_wp2_with (fail);refine HO.o.mono ?_;rintro e W1 ⟨rfl,rfl⟩;simp only [kE,HV.o];go_wp2_with (fail);refine HF2.o.mono ?_;rintro e W2 ⟨rfl,h0',is',ht⟩;have t1:Own.aA (l.heap g) (({ l with hs:=h1 ++ (h0' ++ h2) }:Lay).heap (g.cT i s')) _ W2 :=
   Own.aA.focus HH.o (dH l g h1 h0 h2 HA.o.1) (fun _=>ht) (dH _ _ h1 h0' h2 rfl)
  have IS:=hhh is';go_wp2_with (fail);refine (HC.o h0' is' W2 t1.has).mono ?_;rintro e W3 ⟨⟨v3,rfl⟩,k3,t3⟩;have T3:=hhh (t1.trans t3);have K3:=hhh k3;clear t1 t3 k3 ht is' HC HF2 HO;have HT4:=hhh (Timer.nK (es:=g.es) i HA.o.2.2.1 (by have:=HA.o.2.2.2.2.2.small;have:=HA.o.2.1;omega) (T3.o.has.perm (bE _ _)).left K3.o.timer 5 rfl);go_wp2_with (fail);refine HT4.o.mono ?_;rintro e W4 ⟨⟨v4,rfl⟩,ht4,m4,t4⟩;have T4:=hhh (T3.o.trans (Own.aA.focus T3.o.has (bE _ _) (fun _=>t4) (bE { l with hs:=h1 ++ (h0' ++ h2),ht:=ht4 } ((g.cT i s').bZ i s'.aH))));have M4:=hhh m4;clear t4 m4 HT4 T3;have HCl:=hhh (Ses.lK IS.o (fA T4.o.has h1 h0' h2 rfl));rw [HA.o.2.2.2.2.1] at HCl;go_wp2_with (fail);refine HCl.o.mono ?_;rintro e W5 ⟨rfl,rfl⟩;go_wp2;go_ret;refine ⟨rfl,{ l with hs:=h1 ++ (h0' ++ h2),ht:=ht4 },{ (g.cT i s').bZ i s'.aH with es:=Timer.bI g.es i g.now },⟨K3.o.len,K3.o.ids,K3.o.pun,K3.o.pu,K3.o.wheel,M4.o,K3.o.slots⟩,HK.o.aC7 i,rfl,⟨rfl,rfl,rfl,rfl,rfl,rfl⟩,by first | rfl | exact (ifn HE.o).symm,rfl,T4.o⟩
end
end Gate
end
section
open Go.RowKit
namespace Gate
open Purse (ints)
def Ga.new (B n:Nat):Ga:=⟨n,List.replicate n none,List.replicate n 0,0,⟨B - n * 700,List.replicate n 0,List.replicate n false⟩,[],[],0⟩
theorem aFs (n:Nat):dJ (List.replicate n none) (List.replicate n (.pointer none)) []:=by
 induction n with
 | zero=>exact .nil
 | succ n ih=>exact .free ih
theorem aDq (n:Nat):Purse.dA (List.replicate n 0)=0:=rU _ fun x hx=>by rw [(List.mem_replicate.1 hx).2];exact Nat.zero_le _
theorem Ga.Ok.new (T:Esc.bA) (N:Nat) (hN:N <= 2600) (B n:Nat) (h:0 < n):(Ga.new B n).Ok T N where
 pos:=h
 len:=List.length_replicate ..
 timed:=by
  intro i s hs;have:=List.mem_of_getElem? hs;have:=(List.mem_replicate.1 this).2;simp at this
 untimed:=by intro i _ hi;simp [Ga.new] at hi
 once:=List.nodup_nil
 has:=by simp [Ga.new,chargeO]
 opn:=by simp [Ga.new]
 fA:=by intro s hs;have:=(List.mem_replicate.1 hs).2;simp at this
 ids:=by intro x hx;rw [(List.mem_replicate.1 hx).2];omega
 turns:=by intro i _ hi;simp [Ga.new] at hi
 turnsOnce:=List.nodup_nil
 turnsLive:=by
  intro i s hs;have:=(List.mem_replicate.1 (List.mem_of_getElem? hs)).2;simp at this
 few:=Nat.zero_le _
 many:=Nat.zero_le _
 cap:=hN
 fresh:=by intro e he;simp [Ga.new] at he
 now:=Nat.zero_le _
theorem Good.new (l:Lay) (B n:Nat) (h8:n <= 8) (hB:B <= 40000) (hvs:l.vs=List.replicate n (.pointer none)) (hhs:l.hs=[]) (hmv:l.mv = .map none) (hht:l.ht=[]) (hw:Wheel.Is n [] l.wb l.hw):l.Good (Ga.new B n) where
 len:=List.length_replicate ..
 ids:=List.length_replicate ..
 pun:=List.length_replicate ..
 pu:=⟨by simp [Ga.new],by simpa [Ga.new] using h8,by show Purse.dA (List.replicate n 0) <= _;rw [aDq];exact Nat.zero_le _,by show B - n * 700 <= 40000;omega⟩
 wheel:=hw
 timer:=by rw [hmv,hht];exact .none rfl
 slots:=by rw [hvs,hhs];exact aFs n
theorem _root_.Go.Proofs.YtcjflgmcjfcodaaGreat.Own.aA.plus {X Y:Own.Heap} {u v w:World} (t:Own.aA [] X u v) (s:Own.aA [] Y v w):Own.aA [] (Y ++ X) u w:=t.trans (s.frame (a:=[]) t.has)
theorem aIh (n:Nat):ints (List.replicate n 0)=List.replicate n (.int .i64 0):=by simp [ints]
theorem gD (l : Lay) (B n : Nat) (hvs : l.vs = List.replicate n (.pointer none)) (hhs : l.hs = []) (hmv : l.mv = .map none) (hht : l.ht = []) :
  l.heap (Ga.new B n)=(l.gb,.cells #[.slice (some ⟨l.sb,0,none⟩) n n,.slice (some ⟨l.ib,0,none⟩) n n,.int .i64 0,.pointer (some ⟨l.pb,0,none⟩),.pointer (some ⟨l.wb,0,none⟩),.int .i64 0,.map none] 53 (0,0)) ::
   (l.sb,.cells (madeCells #[.pointer none] n) 58 (0,0)) :: (l.ib,.cells (madeCells #[.int .i64 0] n) 3 (0,0)) ::
   (Purse.heap ⟨B - n * 700,List.replicate n 0,List.replicate n false⟩ l.pb l.hb l.ob ++ l.hw):=by
 unfold Lay.heap Lay.row Lay.nA Lay.mW Lay.eF;rw [hvs,hhs,hmv,hht,Own.dQ,Own.dQ,List.append_nil,List.append_nil];show Timer.at_ _ _ _ _ _ _ :: _ :: Own.row _ _ (ints (List.replicate n 0)) :: _=_;rw [aIh];rfl
theorem eO (B n : Nat) (h1 : 1 ≤ n) (h8 : n ≤ 8) (hB : n * 700 ≤ B) (hB2 : B ≤ 40000) (w : World) :
  Calls prog 5 #[.int .i64 (B:Int),.int .i64 (n:Int)] w fun e w'=>∃ l:Lay,e = .returned (.pointer (some ⟨l.gb,0,none⟩)) /\ l.Good (Ga.new B n) /\ Own.aA [] (l.heap (Ga.new B n)) w w':=by
 have hmk:=run_make_row' (P:=prog) 46 58 (.pointer none) 8 underlying46 (by kernel_rfl) rfl .i64 .i64 n (by omega) (by omega);have hmk2:=run_make_row' (P:=prog) 34 3 (.int .i64 0) 8 underlying34 (by kernel_rfl) rfl .i64 .i64 n (by omega) (by omega);have HP:=hhh (Purse.eO B n h1 h8 hB hB2 w);have HB:=hhh (ai h8 hB2);clear h1 h8 hB hB2;go_enter func5,ntmps5;go_wp2_with (fail);refine HP.o.mono ?_;rintro e W0 ⟨pb,hb,ob,rfl,tp⟩;have TP:=hhh tp;clear tp HP;go_wp2;go_region_with (refine (Wheel.eO n HB.o.1 _).mono ?_;rintro e W1 ⟨wb,hw,rfl,iw,tw⟩;have TW:=hhh tw;have IW:=hhh iw;clear tw iw)
 all_goals go_wp2
 all_goals go_ret
 ·refine ⟨⟨W1.heap.size,W0.heap.size,W0.heap.size + 1,pb,hb,ob,wb,.map none,List.replicate n (.pointer none),hw,[],[]⟩,rfl,Good.new _ B n HB.o.1 HB.o.2 rfl rfl rfl rfl IW.o,?_⟩
  rw [gD _ B n rfl rfl rfl rfl];refine (((((TP.o.bC _ rfl _).bC (W0.heap.size + 1) (by simp) _).drew.plus TW.o).bC _ rfl _)).perm (List.Perm.refl _) (Own.aE _ _ fun x=>?_);simp only [List.count_append,List.count_cons];omega
 ·refine ⟨⟨W1.heap.size + 1,W0.heap.size,W1.heap.size,pb,hb,ob,wb,.map none,List.replicate n (.pointer none),hw,[],[]⟩,rfl,Good.new _ B n HB.o.1 HB.o.2 rfl rfl rfl rfl IW.o,?_⟩
  rw [gD _ B n rfl rfl rfl rfl];refine (((((TP.o.bC _ rfl _)).drew.plus TW.o).bC _ rfl _).bC (W1.heap.size + 1) (by simp) _).perm (List.Perm.refl _) (Own.aE _ _ fun x=>?_);simp only [List.count_append,List.count_cons];omega
 ·refine ⟨⟨W1.heap.size,W0.heap.size + 1,W0.heap.size,pb,hb,ob,wb,.map none,List.replicate n (.pointer none),hw,[],[]⟩,rfl,Good.new _ B n HB.o.1 HB.o.2 rfl rfl rfl rfl IW.o,?_⟩
  rw [gD _ B n rfl rfl rfl rfl];refine (((((TP.o.bC _ rfl _).bC (W0.heap.size + 1) (by simp) _).drew.plus TW.o).bC _ rfl _)).perm (List.Perm.refl _) (Own.aE _ _ fun x=>?_);simp only [List.count_append,List.count_cons];omega
 ·refine ⟨⟨W1.heap.size + 1,W1.heap.size,W0.heap.size,pb,hb,ob,wb,.map none,List.replicate n (.pointer none),hw,[],[]⟩,rfl,Good.new _ B n HB.o.1 HB.o.2 rfl rfl rfl rfl IW.o,?_⟩
  rw [gD _ B n rfl rfl rfl rfl];refine (((((TP.o.bC _ rfl _)).drew.plus TW.o).bC _ rfl _).bC (W1.heap.size + 1) (by simp) _).perm (List.Perm.refl _) (Own.aE _ _ fun x=>?_);simp only [List.count_append,List.count_cons];omega
 ·refine ⟨⟨W1.heap.size + 1 + 1,W1.heap.size,W1.heap.size + 1,pb,hb,ob,wb,.map none,List.replicate n (.pointer none),hw,[],[]⟩,rfl,Good.new _ B n HB.o.1 HB.o.2 rfl rfl rfl rfl IW.o,?_⟩
  rw [gD _ B n rfl rfl rfl rfl];refine (((TP.o.drew.plus TW.o).bC _ rfl _).bC (W1.heap.size + 1) (by simp) _).bC (W1.heap.size + 1 + 1) (by simp) _ |>.perm (List.Perm.refl _) (Own.aE _ _ fun x=>?_);simp only [List.count_append,List.count_cons];omega
 ·refine ⟨⟨W1.heap.size + 1 + 1,W1.heap.size + 1,W1.heap.size,pb,hb,ob,wb,.map none,List.replicate n (.pointer none),hw,[],[]⟩,rfl,Good.new _ B n HB.o.1 HB.o.2 rfl rfl rfl rfl IW.o,?_⟩
  rw [gD _ B n rfl rfl rfl rfl];refine (((TP.o.drew.plus TW.o).bC _ rfl _).bC (W1.heap.size + 1) (by simp) _).bC (W1.heap.size + 1 + 1) (by simp) _ |>.perm (List.Perm.refl _) (Own.aE _ _ fun x=>?_);simp only [List.count_append,List.count_cons];omega
section
variable {l:Lay} {g:Ga} {w:World}
theorem lR (k : l.Good g) (h : Own.Has w (l.heap g)) (hfull : ∀ j : Nat, g.slots[j]? ≠ some none) :
  Calls prog 7 #[.pointer (some ⟨l.gb,0,none⟩)] w fun e w'=>e = .returned (.tuple #[.int .i64 (-1),.string ⟨#[70]⟩]) /\ w'=w:=by
 have c0:=cell h 0 _ rfl;have h8:=k.small;have K:=hhh (ai k hfull);have HF:=hhh (fZ w);clear k hfull;go_enter func7,ntmps7;go_wp2;go_loopw [13] (fun x wr=>∃ (j:Nat),x = .int .i64 j /\ j <= g.n /\ wr=w) (fun x _=>g.n - (intOf x).toNat)
 case atStart=>exact ⟨0,rfl,by omega,rfl⟩
 case round =>
  obtain ⟨j,rfl,hj,rfl⟩:=hrel;by_cases hjn:j < g.n
  ·have hI:(j:Int) < (g.n:Int):=by omega
   have hjv:j < l.vs.length:=by rw [K.o.1.wJ];exact hjn
   have hjs:j < g.slots.length:=by rw [K.o.1.len];exact hjn
   have cs:=kJ h j _ (List.getElem?_eq_getElem hjv);have hs':∃ s,g.slots[j]? = some (some s):=by
    cases hs:g.slots[j]'hjs with
    | none=>exact absurd (by rw [List.getElem?_eq_getElem hjs,hs]) (K.o.2 j)
    | some s=>exact ⟨s,by rw [List.getElem?_eq_getElem hjs,hs]⟩
   obtain ⟨s,hs'⟩:=hs';obtain ⟨b,_,_,_,hv,_⟩:=K.o.1.slots.dT j s hs';rw [List.getElem?_eq_getElem hjv] at hv;rw [Option.some.inj hv] at cs;clear hs' hv;go_wp2;go_roundw
   case rel=>exact ⟨j + 1,by go_num,by omega,trivial⟩
   case measure=>simp [intOf];omega
  ·have hI:(g.n:Int) <= (j:Int):=by omega
   go_wp2_with (fail);refine HF.o.mono ?_;rintro e W1 ⟨rfl,rfl⟩;go_wp2;go_ret2;exact ⟨rfl,rfl⟩
end
end Gate
end
section
open Go.RowKit
namespace Gate
section
variable {T:Esc.bA} {N:Nat} {l:Lay} {g:Ga} {w:World}
theorem zS (k : l.Good g) (o : g.Ok T N) (h : Own.Has w (l.heap g)) (id : Int) (b : ByteArray) (hf : g.find id = none) :
  Calls prog 8 #[.pointer (some ⟨l.gb,0,none⟩),.int .i64 id,.string b] w fun e w'=>e = .returned (.int .i64 0) /\ w'=w:=by
 have HO:=hhh (lP k h id o.pos);rw [hf] at HO;clear h k o hf;go_enter func8,ntmps8;go_wp2_with (fail);refine HO.o.mono ?_;rintro e W1 ⟨rfl,rfl⟩;unfold kE;go_wp2;go_ret;exact ⟨rfl,rfl⟩
theorem aAj (k : l.Good g) (o : g.Ok T N) (h : Own.Has w (l.heap g)) (id m : Int) (hf : g.find id = none) :
  Calls prog 12 #[.pointer (some ⟨l.gb,0,none⟩),.int .i64 id,.int .i64 m] w fun e w'=>e = .returned (.string ⟨#[]⟩) /\ w'=w:=by
 have HO:=hhh (lP k h id o.pos);rw [hf] at HO;clear h k o hf;go_enter func12,ntmps12;go_wp2_with (fail);refine HO.o.mono ?_;rintro e W1 ⟨rfl,rfl⟩;unfold kE;go_wp2;go_ret;exact ⟨rfl,rfl⟩
end
end Gate
end
section
open Go.RowKit
namespace Gate
section
variable {T:Esc.bA} {N:Nat} {l:Lay} {g:Ga} {w:World}
theorem fL (k : l.Good g) (o : g.Ok T N) (h : Own.Has w (l.heap g)) (id : Int) (i : Nat) (hf : g.find id = some i) (s : Se) (hs : g.slots[i]? = some (some s)) :
  Calls prog 11 #[.pointer (some ⟨l.gb,0,none⟩),.int .i64 id] w fun e w'=>e = .returned (.tuple #[.int .i64 (s.e:Int),.bool s.ended]) /\ Own.aA (l.heap g) (l.heap g) w w':=by
 have HO:=hhh (lP k h id o.pos);rw [hf] at HO;obtain ⟨bb,h1,h0,h2,hv,a2,a3,a4,a5⟩:=k.slots.dT i s hs;have HE:=hhh (Ses.kO a3 (fA h h1 h0 h2 a2));have HV:=hhh hv;have HT:=hhh (Own.aA.refl h);clear h k o hf hs hv a2 a3 a4 a5;go_enter func11,ntmps11;go_wp2_with (fail);refine HO.o.mono ?_;rintro e W1 ⟨rfl,rfl⟩;simp only [kE,HV.o];go_wp2_with (fail);refine HE.o.mono ?_;rintro e W2 ⟨rfl,n,rfl⟩;go_wp2;go_ret2;exact ⟨rfl,HT.o.drewN n⟩
end
end Gate
end
section
open Go.RowKit
namespace Gate
open Purse (ints)
theorem aJd (b:Nat) (x y:Nat):Own.Slc 3 (ints [x,y]) (.slice (some ⟨b,0,none⟩) 2 2) [Own.row b 3 (ints [x,y])]:=Own.Slc.row (e:=3) (xs:=ints [x,y]) b [] [] (by simp [ints,maxLen])
theorem aJq {h:Own.Heap} {u v:World} (t:Own.aA [] h u v):Below u.heap.size u v:=t.below (fun x hx=>by simp at hx) (Nat.le_refl _)
def TR:ByteArray:=⟨#[84,82]⟩
theorem aFk (T:Esc.bA) (w:World):Calls prog 4 #[] w fun e w'=>e = .returned (.bool true) /\ Below w.heap.size w w':=by
 have HN:=hhh (eO 1400 2 (by omega) (by omega) (by omega) (by omega) w);have O0:=hhh (Ga.Ok.new T 0 (by omega) 1400 2 (by omega));go_enter func4,ntmps4;go_wp2_with (fail);refine HN.o.mono ?_;rintro e W1 ⟨l0,rfl,k0,t0⟩;have HC1:=hhh (jU k0 O0.o t0.has 0 rfl (fun j hj=>by omega) (Nat.zero_le _) (Nat.zero_le _));have T0:=hhh t0;clear k0 t0 HN;go_wp2_with (fail);refine HC1.o.mono ?_;rintro e W2 ⟨rfl,l1,c1,k1,o1,e1,t1⟩;have hne1:∀ j,j < 1 -> ((Ga.new 1400 2).cH 0 c1).slots[j]? ≠ some none:=by
  intro j hj;obtain rfl:j=0:=by omega
  intro hh;have hh2:(some (some Ses.St.new):Option (Option Se))=some none:=hh
  cases hh2
 have HC2:=hhh (jU k1 o1 t1.has 1 rfl hne1 (by show 1 <= 800;omega) (by show 1 <= 400;omega));clear hne1;rw [show (1 + (Ga.cH (Ga.new 1400 2) 0 c1).n * (Ga.cH (Ga.new 1400 2) 0 c1).many:Nat)=3 from rfl,e1] at HC2;have T1:=hhh (T0.o.trans t1);clear k1 o1 t1 HC1 O0 T0;rw [show (0 + (Ga.new 1400 2).n * (Ga.new 1400 2).many:Nat)=0 from rfl];go_wp2_with (fail);refine HC2.o.mono ?_;rintro e W3 ⟨rfl,l2,c2,k2,o2,e2,t2⟩;obtain ⟨g,hg⟩:∃ g,g=(Ga.cH (Ga.new 1400 2) 0 c1).cH 1 c2:=⟨_,rfl⟩;have S0:g.slots=[some Ses.St.new,some Ses.St.new]:=by rw [hg];rfl
 have S1:g.ids=[0,3]:=by rw [hg];rfl
 have S2:g.n=2:=by rw [hg];rfl
 have S3:g.pu.has.sum=4:=by rw [hg];rfl
 have S4:g.pu.left=0:=by rw [hg];rfl
 have S5:g.live=[0,3]:=by rw [hg];rfl
 rw [<- hg] at k2 o2 t2;have T2:=T1.o.trans t2;have hgb:l2.gb=l0.gb:=e2;have HF3:=hhh (lR k2 T2.has (by intro j;rw [S0];match j with | 0=>simp | 1=>simp | j + 2=>simp));have HT4:=hhh (nO k2 T2.has);have HL5:=hhh (aGl k2 T2.has);have hfind:g.find 3=some 1:=by unfold Ga.find;rw [S0,S1,S2];rfl
 have HC7:=hhh (fun W (hW:Own.Has W (l2.heap g))=>uQ k2 o2 hW 3 TR (by decide) 1 hfind Ses.St.new (by rw [S0];rfl));rw [S4,hgb,show (Ses.St.new.cE TR.data.toList ((700 - Ses.St.new.aH + 0:Nat):Int):Nat)=2 from rfl] at HC7;rw [S3,hgb] at HT4;rw [S5,hgb] at HL5;rw [hgb] at HF3;have TT2:=hhh T2;have SS:=hhh (ai S0 (ai S1 (ai S2 (ai hgb S4))));clear hg S0 S1 S2 S3 S4 S5 T2 k2 o2 t2 e2 e1 HC2 T1 hfind hgb;go_wp2_with (fail);refine HF3.o.mono ?_;rintro e W4 ⟨rfl,rfl⟩;go_wp2_with (fail);refine HT4.o.mono ?_;rintro e W4 ⟨rfl,rfl⟩;go_wp2_with (fail);refine HL5.o.mono ?_;rintro e W5 ⟨ad,c,ho,rfl,hs,t5⟩;replace hs:Own.Slc 3 (ints [0,3]) (.slice ad 2 c) ho:=hs;have t6:Own.aA (l2.heap g) (l2.heap g) _ (W5.alloc (.cells #[.int .i64 0,.int .i64 3] 3)):=t5.forget.aD _;have t7:=t5.bC _ rfl (.cells #[.int .i64 0,.int .i64 3] 3);have HS6:=hhh (aHx hs (aJd W5.heap.size 0 3) (Own.Has.left (b:=l2.heap g) (Own.Has.right (a:=[_]) t7.has)) (Own.Has.left (a:=[_]) t7.has) (by decide));rw [show decide ([0,3]=[0,3])=true from rfl] at HS6;have T6:=hhh t6;clear hs t5 t6 t7 HL5;go_wp2_with (fail);refine HS6.o.mono ?_;rintro e W6 ⟨rfl,n6,rfl⟩;have t8:=TT2.o.trans (T6.o.drewN n6);have HC8:=hhh (HC7.o _ t8.has);have T8:=hhh t8;clear HC7 t8 HS6 T6;go_wp2_with (fail);refine HC8.o.mono ?_;rintro e W7 ⟨rfl,l3,g3,k3,o3,h3,like,-,e3,t9⟩;have R0:g3.slots=[some Ses.St.new,some (Ses.St.new.feed TR.data.toList ((700 - Ses.St.new.aH + 0:Nat):Int))]:=by rw [h3,SS.o.1];rfl
 have R1:g3.find 3=some 1:=by unfold Ga.find;rw [R0,like.ids,like.n,SS.o.2.1,SS.o.2.2.1];rfl
 have R2:g3.told (g3.find 3)=4:=by
  rw [R1];show g3.pu.has.getD 1 0=4;rw [List.getD_eq_getElem?_getD,o3.nJ 1 _ (by rw [R0];rfl)];rfl
 have t10:=T8.o.trans t9;have HCh:=hhh (vN k3 o3 t10.has 3);rw [R2,e3] at HCh;have HB:=hhh (aJq t10);clear k3 o3 h3 like e3 t9 R0 R1 R2 t10 HC8 T8;go_wp2_with (fail);refine HCh.o.mono ?_;rintro e W8 ⟨rfl,rfl⟩;go_wp2;go_ret;exact ⟨rfl,HB.o⟩
end Gate
end
end Go.Proofs.YtcjflgmcjfcodaaGreat
