/- Texts of the walk, joined. -/
import Derived.Test.YtfheacchdfdeiaaGreatM40
import Derived.Test.YtfheacchdfdeiaaGreatM42
set_option maxRecDepth 100000
set_option maxHeartbeats 8000000
namespace Go.Proofs.YtfheacchdfdeiaaGreat
section
open Go.RowKit
namespace Gate
section
variable {T:Esc.bI} {N:Nat} {l:Lay} {g:Ga} {w:World}
theorem oV (k : l.Good g) (o : g.Ok T N) (h : Own.Has w (l.heap g)) (id : Int) (i : Nat) (hf : g.find id = some i) (s : Se) (hs : g.slots[i]? = some (some s)) :
  Calls Tryz.prog 11 #[.pointer (some ⟨l.gb,0,none⟩),.int .i64 id] w fun e w'=>e = .returned (.bool (!(s.half || s.ended))) /\
   ∃ l' g',Lay.Good l' g' /\ g'.Ok T N /\ g'.slots=g.slots.set i (some (s.gW)) /\ g.aF1 g' /\ g'.es=g.es /\ l'.gb=l.gb /\ Own.aA (l.heap g) (l'.heap g') w w':=by
 have HO:=hhh (pG k h id o.pos);rw [hf] at HO;have hil:i < g.n:=by rw [<- k.len];exact (List.getElem?_eq_some_iff.1 hs).1
 have ho2:=o.iB i s hs;have hsm:=o.fK s (List.mem_of_getElem? hs);obtain ⟨bb,h1,h0,h2,hv,a2,a3,a4,a5⟩:=k.slots.dX i s hs;have hcap:=o.cap;have hout:=hsm.out;have HF:=Ses.oV a3 (fK h h1 h0 h2 a2);obtain ⟨s',hs'⟩:∃ s',s'=s.gW:=⟨_,rfl⟩;rw [<- hs'] at HF |-;have hsm':s'.Good T N:=by rw [hs'];exact hsm.gW
 have hfit:Purse.over s'.aN <= g.pu.left + Purse.over (g.pu.has.getD i 0):=by
  rw [fZ o i s hs,hs'];have:(s.gW).aN <= s.aN:=by unfold Ses.St.gW;split <;> exact Nat.le_refl _
  unfold Purse.over;omega
 have HV:=hhh hv;have HH:=hhh h
 have HC:=hhh (fun (h0':Own.Heap) (is':Ses.Is s' bb h0') W (hW:Own.Has W (({ l with hs:=h1 ++ (h0' ++ h2) }:Lay).heap (g.dT i s'))) =>
  cF (k.dT i s' _ (a4 _ h0' is')) hW i s' (by show (g.slots.set i (some s'))[i]? = _;rw [List.getElem?_set_self (by rw [k.len];exact hil)]) ho2 hsm' hcap hfit)
 have HK:=hhh (o.dT i s s' hs hsm');obtain ⟨R,hR⟩:∃ R:Bool,R=(!(s.half || s.ended)):=⟨_,rfl⟩;rw [<- hR] at HF |-;have HF2:=hhh HF;have HA:=hhh (And.intro a2 hil);clear k h ho2 hsm hsm' hv a2 a3 a4 a5 hf hs o hil HF hs' hcap hfit hout hR;go_enter Tryz.func11,Tryz.ntmps11;go_wp2_with (fail);refine HO.o.mono ?_;rintro e W1 ⟨rfl,rfl⟩;simp only [mR,HV.o];go_wp2_with (fail);refine HF2.o.mono ?_;rintro e W2 ⟨rfl,h0',is',ht⟩;have t1:Own.aA (l.heap g) (({ l with hs:=h1 ++ (h0' ++ h2) }:Lay).heap (g.dT i s')) _ W2 :=
  Own.aA.focus HH.o (dV l g h1 h0 h2 HA.o.1) (fun _=>ht) (dV _ _ h1 h0' h2 rfl)
 go_wp2_with (fail);refine (HC.o h0' is' W2 t1.has).mono ?_;rintro e W3 ⟨⟨v3,rfl⟩,k3,t3⟩;have T3:=hhh (t1.trans t3);have K3:=hhh k3;clear t1 t3 k3 ht is' HC HF2 HO;go_wp2;go_ret;exact ⟨rfl,_,_,K3.o,HK.o,rfl,⟨rfl,rfl,rfl,rfl,rfl,rfl⟩,rfl,rfl,T3.o⟩
theorem zC (k : l.Good g) (o : g.Ok T N) (h : Own.Has w (l.heap g)) (id : Int) (i : Nat) (hf : g.find id = some i) (s : Se) (hs : g.slots[i]? = some (some s)) (ho : s.out.length + 2 ≤ 300000000 * N) :
  Calls Tryz.prog 15 #[.pointer (some ⟨l.gb,0,none⟩),.int .i64 id] w fun e w'=>e = .returned (.bool (!s.ended)) /\
   ∃ l' g',Lay.Good l' g' /\ g'.Ok T N /\ g'.slots=g.slots.set i (some (s.halt 13)) /\ g.aF1 g' /\ g'.es=g.es /\ l'.gb=l.gb /\ Own.aA (l.heap g) (l'.heap g') w w':=by
 have HO:=hhh (pG k h id o.pos);rw [hf] at HO;have hil:i < g.n:=by rw [<- k.len];exact (List.getElem?_eq_some_iff.1 hs).1
 have ho2:=o.iB i s hs;have hsm:=o.fK s (List.mem_of_getElem? hs);obtain ⟨bb,h1,h0,h2,hv,a2,a3,a4,a5⟩:=k.slots.dX i s hs;have hcap:=o.cap;have hout:=hsm.out;have HF:=Ses.pD a3 (fK h h1 h0 h2 a2) 13 (by omega);obtain ⟨s',hs'⟩:∃ s',s'=s.halt 13:=⟨_,rfl⟩;rw [<- hs'] at HF |-;have hsm':s'.Good T N:=by rw [hs'];exact Ses.aDi hsm ho 13
 have hfit:Purse.over s'.aN <= g.pu.left + Purse.over (g.pu.has.getD i 0):=by
  rw [fZ o i s hs,hs'];have:(s.halt 13).aN <= s.aN:=Ses.iY s 13;unfold Purse.over;omega
 have HV:=hhh hv;have HH:=hhh h
 have HC:=hhh (fun (h0':Own.Heap) (is':Ses.Is s' bb h0') W (hW:Own.Has W (({ l with hs:=h1 ++ (h0' ++ h2) }:Lay).heap (g.dT i s'))) =>
  cF (k.dT i s' _ (a4 _ h0' is')) hW i s' (by show (g.slots.set i (some s'))[i]? = _;rw [List.getElem?_set_self (by rw [k.len];exact hil)]) ho2 hsm' hcap hfit)
 have HK:=hhh (o.dT i s s' hs hsm');obtain ⟨R,hR⟩:∃ R:Bool,R=(!s.ended):=⟨_,rfl⟩;rw [<- hR] at HF |-;have HF2:=hhh HF;have HA:=hhh (And.intro a2 hil);clear k h ho2 hsm hsm' hv a2 a3 a4 a5 hf hs o hil HF hs' hcap hfit hout hR;go_enter Tryz.func15,Tryz.ntmps15;go_wp2_with (fail);refine HO.o.mono ?_;rintro e W1 ⟨rfl,rfl⟩;simp only [mR,HV.o];go_wp2_with (fail);refine HF2.o.mono ?_;rintro e W2 ⟨rfl,h0',is',ht⟩;have t1:Own.aA (l.heap g) (({ l with hs:=h1 ++ (h0' ++ h2) }:Lay).heap (g.dT i s')) _ W2 :=
  Own.aA.focus HH.o (dV l g h1 h0 h2 HA.o.1) (fun _=>ht) (dV _ _ h1 h0' h2 rfl)
 go_wp2_with (fail);refine (HC.o h0' is' W2 t1.has).mono ?_;rintro e W3 ⟨⟨v3,rfl⟩,k3,t3⟩;have T3:=hhh (t1.trans t3);have K3:=hhh k3;clear t1 t3 k3 ht is' HC HF2 HO;go_wp2;go_ret;exact ⟨rfl,_,_,K3.o,HK.o,rfl,⟨rfl,rfl,rfl,rfl,rfl,rfl⟩,rfl,rfl,T3.o⟩
end
end Gate
end
end Go.Proofs.YtfheacchdfdeiaaGreat
