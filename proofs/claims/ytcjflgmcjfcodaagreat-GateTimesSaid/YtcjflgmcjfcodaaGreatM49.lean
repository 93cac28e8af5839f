/- Texts of the walk, joined. -/
import Derived.Test.YtcjflgmcjfcodaaGreatM43
import Derived.Test.YtcjflgmcjfcodaaGreatM45
import Derived.Test.YtcjflgmcjfcodaaGreatM48
set_option maxRecDepth 100000
set_option maxHeartbeats 8000000
namespace Go.Proofs.Tryz end Go.Proofs.Tryz
namespace Go.Proofs.YtcjflgmcjfcodaaGreat
open Go.Proofs.Tryz
section
open Go.RowKit
namespace Gate
def fl (es:Timer.Ents):Timer.Ents:=es.map fun e=>(e.1,0,e.2.2)
def Ga.flat (g:Ga):Ga:={ g with es:=fl g.es }
def Ga.xS (g:Ga) (S:List (Option Se)) (t:List Nat) (E:Timer.Ents):Ga:={ g with slots:=S,turns:=t,es:=E,pu:={ g.pu with has:=S.map chargeO,opn:=S.map Option.isSome } }
structure Ga.iB (g:Ga):Prop where
 told:∀ s,some s ∈ g.slots -> Ses.Told s /\ (s.ended=true -> s.out ≠ [])
 few:g.turns.length <= g.many
theorem aK6 (es:Timer.Ents):fl (fl es)=fl es:=by unfold fl;rw [List.map_map];rfl
theorem aEp (g:Ga):g.flat.flat=g.flat:=by unfold Ga.flat;simp only [aK6]
theorem lS (es:Timer.Ents) (i now:Nat):fl (Timer.bI es i now)=Timer.bI (fl es) i now:=by
 unfold fl Timer.bI;rw [List.map_map,List.map_map];refine List.map_congr_left fun e _=>?_
 by_cases h:e.1=i <;> simp [h]
theorem aGi (es:Timer.Ents) (i:Nat) (L:Int):fl (Timer.eJ es i L)=Timer.eJ (fl es) i L:=by
 unfold fl Timer.eJ;rw [List.map_map,List.map_map];refine List.map_congr_left fun e _=>?_
 by_cases h:e.1=i <;> simp [h]
theorem mT (es:Timer.Ents) (p:Nat × Timer.Rec -> Bool):fl (es.filter fun e=>p (e.1,e.2.2))=(fl es).filter fun e=>p (e.1,e.2.2):=by
 unfold fl;rw [List.filter_map];rfl
theorem aJj (es:Timer.Ents) (i:Nat):fl (Timer.gone es i)=Timer.gone (fl es) i:=mT es fun x=>!(x.1 == i)
theorem aCj (es:Timer.Ents) (now:Nat):fl (Timer.stay now es)=Timer.stay now (fl es):=mT es fun x=>!Timer.late now x.2
theorem yA (es:Timer.Ents) (now:Nat):Timer.cF now (fl es)=Timer.cF now es:=by
 unfold Timer.cF;rw [<- mT es fun x=>Timer.late now x.2];unfold fl;rw [List.map_map];rfl
theorem aBn (es:Timer.Ents) (i c:Nat) (r:Timer.Rec):fl (es ++ [(i,c,r)])=fl es ++ [(i,0,r)]:=by unfold fl;rw [List.map_append];rfl
section
variable {T:Esc.bA} {N:Nat} {l:Lay} {g g':Ga} {w:World}
theorem oU (o : g'.Ok T N) (hn : g'.n = g.n) (hi : g'.ids = g.ids) (hm : g'.many = g.many) (hr : g'.pu.rest = g.pu.rest) (hw : g'.now = g.now) {S : List (Option Se)} {t : List Nat} {E : Timer.Ents} (hs : g'.slots = S) (ht : g'.turns = t) (he : fl g'.es = fl E) :
  g'.flat=(g.xS S t E).flat:=by
 have h1:=o.has;have h2:=o.opn;obtain ⟨n',s',i',m',⟨r',ha',op'⟩,t',e',nw'⟩:=g';simp only at hn hi hm hr hw hs ht he h1 h2;subst hn;subst hi;subst hm;subst hr;subst hw;subst hs;subst ht;subst h1;subst h2;unfold Ga.flat Ga.xS;simp only [he]
def Next (T:Esc.bA) (N:Nat) (l:Lay) (g:Ga) (w:World) (G:Ga) (w':World):Prop :=
 ∃ l' g',Lay.Good l' g' /\ g'.Ok T N /\ g'.iB /\ g'.flat=G.flat /\ l'.gb=l.gb /\ Own.aA (l.heap g) (l'.heap g') w w'
theorem Next.refl (k:l.Good g) (o:g.Ok T N) (sn:g.iB) (h:Own.Has w (l.heap g)):Next T N l g w g w:=⟨l,g,k,o,sn,rfl,rfl,Own.aA.refl h⟩
theorem Ga.iB.set (sn:g.iB) (i:Nat) (s':Option Se) (hs:g'.slots=g.slots.set i s') (h1:∀ s,s'=some s -> Ses.Told s /\ (s.ended=true -> s.out ≠ [])) (ht:g'.turns.length <= g'.many):g'.iB:=by
 refine ⟨fun s h=>?_,ht⟩;rw [hs] at h;rcases List.mem_or_eq_of_mem_set h with h2 | h2
 ·exact sn.told s h2
 ·exact h1 s h2.symm
theorem Ga.iB.at_ (sn:g.iB) {i:Nat} {s:Se} (hs:g.slots[i]? = some (some s)):Ses.Told s /\ (s.ended=true -> s.out ≠ []):=sn.told s (List.mem_of_getElem? hs)
theorem aCf {id:Int} {i:Nat} (h:g.find id=some i):∃ s,g.slots[i]? = some (some s):=uK h
def Ga.chunk (g:Ga) (id:Int) (b:List UInt8):Nat × Ga :=
 match g.find id with
 | none=>(0,g)
 |some i=>match g.slots[i]? with
  | some (some s)=>(s.cE b ((700 - s.aH + g.pu.left:Nat):Int),g.xS (g.slots.set i (some (s.feed b ((700 - s.aH + g.pu.left:Nat):Int)))) g.turns (if s.cE b ((700 - s.aH + g.pu.left:Nat):Int)=0 then g.es else Timer.bI g.es i g.now))
  | _=>(0,g)
theorem nN (k : l.Good g) (o : g.Ok T N) (sn : g.iB) (h : Own.Has w (l.heap g)) (id : Int) (b : ByteArray) (hb : b.size ≤ 1000) :
  Calls prog 8 #[.pointer (some ⟨l.gb,0,none⟩),.int .i64 id,.string b] w fun e w'=>e = .returned (.int .i64 ((g.chunk id b.data.toList).1:Int)) /\ Next T N l g w (g.chunk id b.data.toList).2 w':=by
 unfold Ga.chunk
 cases hf:g.find id with
 | none=>exact (zS k o h id b hf).mono fun e w' h1=>⟨h1.1,by rw [h1.2];exact Next.refl k o sn h⟩
 | some i =>
  obtain ⟨s,hs⟩:=aCf hf;simp only [hs];refine (uQ k o h id b hb i hf s hs).mono ?_;rintro e w' ⟨rfl,l',g',a1,a2,a3,a4,a5,a6,a7⟩;exact ⟨rfl,l',g',a1,a2,sn.set i _ a3 (fun s' h1=>Option.some.inj h1 ▸ ⟨Ses.aDr (sn.at_ hs).1 _ _,(sn.at_ hs).2⟩) (by rw [a4.turns,a4.many];exact sn.few),oU a2 a4.n a4.ids a4.many a4.rest a4.now a3 a4.turns (by rw [a5]),a6,a7⟩
def Ga.half (g:Ga) (id:Int):Bool × Ga :=
 match g.find id with
 | none=>(false,g)
 |some i=>match g.slots[i]? with
  | some (some s)=>(!(s.half || s.ended),g.xS (g.slots.set i (some s.aL2)) g.turns g.es)
  | _=>(false,g)
def Ga.cancel (g:Ga) (id:Int):Bool × Ga :=
 match g.find id with
 | none=>(false,g)
 |some i=>match g.slots[i]? with
  | some (some s)=>(!s.ended,g.xS (g.slots.set i (some (s.halt 13))) g.turns g.es)
  | _=>(false,g)
theorem aHt (s:Se) (e:Nat) (h:s.ended=true -> s.out ≠ []):(s.halt e).out ≠ []:=by
 unfold Ses.St.halt;split
 ·rename_i h1;exact h h1
 ·unfold Ses.St.stop;simp
theorem aDa {s:Se} (h:Ses.Told s) (e:Nat):Ses.Told (s.halt e):=by
 unfold Ses.St.halt;split <;> exact h
def Ga.write (g:Ga) (id m:Int):List UInt8 × Ga :=
 match g.find id with
 | none=>([],g)
 |some i=>match g.slots[i]? with
  | some (some s)=>if s.ended=true /\ s.out.length <= m.toNat then (s.out,g.xS (g.slots.set i none) (g.turns.erase i) (g.fO i))
    else (s.out.take m.toNat,g.xS (g.slots.set i (some (s.write m))) g.turns (if s.out.take m.toNat=[] then g.es else Timer.bI g.es i g.now))
  | _=>([],g)
theorem gE (k : l.Good g) (o : g.Ok T N) (sn : g.iB) (h : Own.Has w (l.heap g)) (id m : Int) :
  Calls prog 12 #[.pointer (some ⟨l.gb,0,none⟩),.int .i64 id,.int .i64 m] w fun e w'=>e = .returned (.string ⟨(g.write id m).1.toArray⟩) /\ Next T N l g w (g.write id m).2 w':=by
 unfold Ga.write
 cases hf:g.find id with
 | none=>exact (aAj k o h id m hf).mono fun e w' h1=>⟨h1.1,by rw [h1.2];exact Next.refl k o sn h⟩
 | some i =>
  obtain ⟨s,hs⟩:=aCf hf;simp only [hs];by_cases hc:s.ended=true /\ s.out.length <= m.toNat
  ·rw [ifp hc]
   refine (aB8 k o h id m i hf s hs hc.1 ((sn.at_ hs).2 hc.1) hc.2).mono ?_;rintro e w' ⟨rfl,l',g',a1,a2,a3,b1,b2,b3,b4,b5,b6,b7,a6,a7⟩;exact ⟨rfl,l',g',a1,a2,sn.set i _ a3 (fun s' h1=>by cases h1) (by rw [b5,b3];exact Nat.le_trans (List.length_erase_le ..) sn.few),oU a2 b1 b2 b3 b4 b6 a3 b5 (by rw [b7]),a6,a7⟩
  ·rw [ifn hc]
   have hcl:(s.write m).closed=false:=by
    unfold Ses.St.closed
    cases he:s.ended with
    | false=>show (s.ended && _)=false;rw [he];rfl
    | true =>
     show (s.ended && (s.out.drop m.toNat).isEmpty)=false;have:¬ s.out.length <= m.toNat:=fun h1=>hc ⟨he,h1⟩
     have h2:s.out.drop m.toNat ≠ []:=fun h3=>by
      have:=congrArg List.length h3;rw [List.length_drop,List.length_nil] at this;omega
     rw [he]
     cases h4:s.out.drop m.toNat with
     | nil=>exact absurd h4 h2
     | cons x y=>rfl
   refine (aA0 k o h id m i hf s hs hcl).mono ?_;rintro e w' ⟨rfl,l',g',a1,a2,a3,a4,a5,a6,a7⟩;refine ⟨rfl,l',g',a1,a2,sn.set i _ a3 (fun s' h1=>Option.some.inj h1 ▸ ⟨Ses.zQ (sn.at_ hs).1 _,fun he h2=>?_⟩) (by rw [a4.turns,a4.many];exact sn.few),oU a2 a4.n a4.ids a4.many a4.rest a4.now a3 a4.turns (by rw [a5]),a6,a7⟩;unfold Ses.St.closed at hcl;rw [he,h2] at hcl
   cases hcl
def Ga.run (T:Esc.bA) (g:Ga):(Int × Nat) × Ga :=
 match g.next with
 | none=>((-1,0),g)
 |some i=>match g.slots[i]? with
  | some (some s)=>(((g.ids.getD i 0:Nat),(s.run (Pip.aO T) (some fun z=>g.pu.lets i z.toNat) 16).2),
    g.xS (g.slots.set i (some (s.run (Pip.aO T) (some fun z=>g.pu.lets i z.toNat) 16).1)) (g.turns.erase i ++ [i]) (mF g i s (s.run (Pip.aO T) (some fun z=>g.pu.lets i z.toNat) 16).1))
  | _=>((-1,0),g)
theorem tO (text:Json.Part -> List UInt8) (may:Option (Int -> Bool)):∀ (k:Nat) (s:Se),(s.ended=true -> s.out ≠ []) -> ((s.run text may k).1.ended=true -> (s.run text may k).1.out ≠ [])
 | 0,_,h=>h
 | k + 1,s,h=>by
  unfold Ses.St.run
  split
  ·rename_i hr
   have h1:=Ses.aFh text may s (Ses.iV hr)
   exact tO text may k _ fun h2=>by
    obtain ⟨pre,x,e⟩:=h1 h2
    rw [e];simp
  ·exact h
theorem aCu (k : l.Good g) (o : g.Ok T N) (hN : N ≤ 2500) (sn : g.iB) (h : Own.Has w (l.heap g)) (hB : ∀ x ∈ Own.blocks (l.heap g), Esc.tabsEnd ≤ x) (hT : Esc.bP T w) :
  Calls prog 9 #[.pointer (some ⟨l.gb,0,none⟩)] w fun e w'=>e = .returned (.tuple #[.int .i64 (g.run T).1.1,.int .i64 ((g.run T).1.2:Nat)]) /\ Next T (N + 16) l g w (g.run T).2 w':=by
 unfold Ga.run
 cases hn:g.next with
 | none =>
  refine (aHu k o h hn).mono ?_;rintro e w' ⟨rfl,ht⟩;exact ⟨rfl,l,g,k,o.mono (Nat.le_add_right ..) (by omega),sn,rfl,rfl,ht⟩
 | some i =>
  have h1:g.cA i=true:=List.find?_some hn;have hmem:i ∈ g.turns:=List.mem_of_find?_eq_some hn;unfold Ga.cA at h1
  cases hs:g.slots[i]? with
  | none=>rw [hs] at h1;cases h1
  | some q =>
   cases q with
   | none=>rw [hs] at h1;cases h1
   | some s =>
    simp only [hs];refine (aI0 k o hN h hB hT i hn s hs (sn.at_ hs).1).mono ?_;rintro e w' ⟨rfl,l',g',a1,a2,a3,b1,b2,b3,b4,b6,b5,b7,a6,a7⟩;refine ⟨rfl,l',g',a1,a2,sn.set i _ a3 (fun s' h1=>Option.some.inj h1 ▸ ⟨Ses.rD _ _ 16 s (sn.at_ hs).1,tO _ _ 16 s (sn.at_ hs).2⟩) ?_,oU a2 b1 b2 b3 b4 b6 a3 b5 (by rw [b7]),a6,a7⟩;rw [b5,b3,lla,List.length_erase_of_mem hmem];have:=sn.few;have:0 < g.turns.length:=List.length_pos_of_mem hmem;simp only [List.length_singleton];omega
def firstFree:List (Option Se) -> Option Nat
 | []=>none
 | none :: _=>some 0
 | some _ :: ss=>(firstFree ss).map (· + 1)
theorem firstFree_none:∀ ss:List (Option Se),firstFree ss=none -> ∀ j:Nat,ss[j]? ≠ some none
 | [],_,j=>by simp
 | none :: ss,h,j=>by cases h
 | some s :: ss,h,j=>by
  cases j with
  | zero=>simp
  | succ j =>
   unfold firstFree at h
   exact firstFree_none ss (by simpa using h) j
theorem firstFree_some:∀ (ss:List (Option Se)) (i:Nat),firstFree ss=some i -> ss[i]? = some none /\ ∀ j:Nat,j < i -> ss[j]? ≠ some none
 | [],_,h=>by cases h
 | none :: ss,i,h=>by
  obtain rfl:=Option.some.inj h
  exact ⟨rfl,fun j hj=>by omega⟩
 | some s :: ss,i,h=>by
  unfold firstFree at h
  obtain ⟨k,h1,rfl⟩:=Option.map_eq_some_iff.1 h
  obtain ⟨h2,h3⟩:=firstFree_some ss k h1
  refine ⟨h2,fun j hj=>?_⟩
  cases j with
  | zero=>simp
  | succ j=>exact h3 j (by omega)
def Ga.connect (g:Ga):(Int × List UInt8) × Ga :=
 match firstFree g.slots with
 | none=>((-1,[70]),g)
 | some i=>(((i + g.n * g.many:Nat),[]),g.cH i 0)
theorem aBk (g:Ga) (i c:Nat):(g.cH i c).flat=(g.cH i 0).flat:=by
 unfold Ga.flat Ga.cH;simp only [aBn]
theorem kK (k : l.Good g) (o : g.Ok T N) (sn : g.iB) (h : Own.Has w (l.heap g)) (hm : g.many ≤ 400) :
  Calls prog 7 #[.pointer (some ⟨l.gb,0,none⟩)] w fun e w'=>e = .returned (.tuple #[.int .i64 g.connect.1.1,.string ⟨g.connect.1.2.toArray⟩]) /\ Next T N l g w g.connect.2 w':=by
 unfold Ga.connect
 cases hf:firstFree g.slots with
 | none=>exact (lR k h (firstFree_none _ hf)).mono fun e w' h1=>⟨h1.1,by rw [h1.2];exact Next.refl k o sn h⟩
 | some i =>
  obtain ⟨h1,h2⟩:=firstFree_some _ i hf;refine (jU k o h i h1 h2 (by omega) (Nat.le_trans sn.few hm)).mono ?_;rintro e w' ⟨rfl,l',c,a1,a2,a6,a7⟩;refine ⟨rfl,l',g.cH i c,a1,a2,⟨fun s hs=>?_,?_⟩,aBk g i c,a6,a7⟩
  ·rcases List.mem_or_eq_of_mem_set hs with h3 | h3
   ·exact sn.told s h3
   ·rw [Option.some.inj h3];exact ⟨Ses.Told.new,fun h4=>by cases h4⟩
  ·show (g.turns ++ [i]).length <= g.many + 1
   rw [lla];have:=sn.few;simp only [List.length_singleton];omega
theorem aB7 {i:Nat} (sn:g.iB):(g.dC i).iB:=by
 unfold Ga.dC;split
 ·rename_i s hs
  exact sn.set (g':=(g.cT i (s.halt 12)).bZ i (s.halt 12).aH) i _ rfl (fun s' h1=>Option.some.inj h1 ▸ ⟨aDa (sn.at_ hs).1 12,fun _=>aHt s 12 (sn.at_ hs).2⟩) sn.few
 ·exact sn
theorem aFa (a:List Nat):∀ g:Ga,g.iB -> (a.foldl Ga.dC g).iB:=by
 induction a with
 | nil=>intro g h;exact h
 | cons i a ih=>intro g h;exact ih _ (aB7 h)
theorem aF2 (sn:g.iB):g.tick.iB:=aFa _ _ ⟨sn.told,sn.few⟩
def Ga.fJ (g:Ga):List Nat:=g.fD.map fun i=>g.ids.getD i 0
theorem aHg (S : Timer.gV) (k : l.Good g) (o : g.Ok T N) (hN : 1 ≤ N) (sn : g.iB) (h : Own.Has w (l.heap g)) (hnow : g.now + 1 ≤ 100000) :
  Calls prog 10 #[.pointer (some ⟨l.gb,0,none⟩)] w fun e w'=>∃ ad c ho l' g',e = .returned (.slice ad g.fJ.length c) /\ Own.Slc 3 (Purse.ints g.fJ) (.slice ad g.fJ.length c) ho /\
   Lay.Good l' g' /\ g'.Ok T N /\ g'.iB /\ g'.flat=g.tick.flat /\ l'.gb=l.gb /\ Own.aA (l.heap g) (ho ++ l'.heap g') w w':=by
 have hl:g.fJ.length=g.fD.length:=List.length_map ..;rw [hl];refine (aF0 S k o hN h hnow).mono ?_;rintro e w' ⟨ad,c,ho,rfl,hs,l',a1,a2,a6,a7⟩;exact ⟨ad,c,ho,l',g.tick,rfl,hs,a1,a2,aF2 sn,rfl,a6,a7⟩
end
theorem gN (g:Ga):g.flat.connect.1=g.connect.1 /\ g.flat.connect.2.flat=g.connect.2.flat:=by
 unfold Ga.connect;rw [show g.flat.slots=g.slots from rfl]
 cases firstFree g.slots with
 | none=>exact ⟨rfl,aEp g⟩
 | some i =>
  refine ⟨rfl,?_⟩;unfold Ga.flat Ga.cH;simp only [aBn,aK6]
end Gate
end
section
open Go.RowKit
namespace Ses
open Pip
open Json (Part)
def gK (L:Nat):Setup:=⟨1,1,2,0,(L:Int)⟩
def T0 (text:Part -> List UInt8) (L:Nat):St:=((fresh (aQ (gK L))).run text none 16).1
def aMe (text:Part -> List UInt8) (L:Nat):Bool :=
 calm text 700 16 (fresh (aQ (gK L))) && ((fresh (aQ (gK L))).run text none 16).2 == 8 && (fresh (aQ (gK L))).ready && (aQ (gK L)).length == 8 &&
 (T0 text L).inb.isEmpty && (T0 text L).out == [75] && (T0 text L).told && !(T0 text L).ended && !(T0 text L).half && (T0 text L).setup.limit == (L:Int) && decide ((T0 text L).aH <= 700) &&
 calm text 700 16 { T0 text L with inb:=[32] }
theorem aH5 (g:Part -> List UInt8):((List.range 61).all fun L=>aMe g L)=true:=by kernel_rfl
theorem aFi (g:Part -> List UInt8):(List.range 61).map (fun L=>({ T0 g L with inb:=[32] }.run g none 16).1)=(List.range 61).map (fun L=>T0 g L):=by kernel_rfl
structure Tok (text:Part -> List UInt8) (L:Nat):Prop where
 calm0:calm text 700 16 (fresh (aQ (gK L)))=true
 many:((fresh (aQ (gK L))).run text none 16).2=8
 ready:(fresh (aQ (gK L))).ready=true
 len:(aQ (gK L)).length=8
 inb:(T0 text L).inb=[]
 out:(T0 text L).out=[75]
 told:(T0 text L).told=true
 ended:(T0 text L).ended=false
 half:(T0 text L).half=false
 limit:(T0 text L).setup.limit=(L:Int)
 aH:(T0 text L).aH <= 700
 calm1:calm text 700 16 { T0 text L with inb:=[32] }=true
 blank:({ T0 text L with inb:=[32] }.run text none 16).1=T0 text L
theorem uX (text:Part -> List UInt8) (L:Nat) (hL:L <= 60):Tok text L:=by
 have h1:=aH5 text;simp only [List.all_eq_true,List.mem_range] at h1;have h:=h1 L (by omega);have h2:=(List.map_inj_left.1 (aFi text)) L (List.mem_range.2 (by omega));unfold aMe at h;simp only [Bool.and_eq_true,decide_eq_true_eq,beq_iff_eq,List.isEmpty_iff,Bool.not_eq_true'] at h;obtain ⟨⟨⟨⟨⟨⟨⟨⟨⟨⟨⟨a1,a2⟩,a3⟩,a4⟩,a5⟩,a6⟩,a7⟩,a8⟩,a9⟩,a10⟩,a11⟩,a12⟩:=h;exact ⟨a1,a2,a3,a4,a5,a6,a7,a8,a9,a10,a11,a12,h2⟩
def A1:Nat -> St
 | 0=>St.new
 | 1=>fresh [84]
 | _=>{ fresh [84] with header:=[84] }
def R1:Nat -> St
 | 0=>St.new
 | 1=>{ St.new with header:=[84] }
 | _=>{ St.new with header:=[84,84],out:=[78,2],ended:=true,e:=2 }
def gY (text:Part -> List UInt8) (s t:St):Prop :=
 (s.ready=true /\ calm text 700 16 s=true /\ (s.run text none 16).1=t /\ (t.told && !s.told)=false) \/ (s.ready=false /\ t=s)
theorem aHi (g:Part -> List UInt8):calm g 700 16 (A1 1)=true:=by kernel_rfl
theorem aKj (g:Part -> List UInt8):((A1 1).run g none 16).1=R1 1:=by kernel_rfl
theorem aHl (g:Part -> List UInt8):calm g 700 16 (A1 2)=true:=by kernel_rfl
theorem aJb (g:Part -> List UInt8):((A1 2).run g none 16).1=R1 2:=by kernel_rfl
theorem aC5 (text:Part -> List UInt8) (r:Nat) (hr:r < 3):gY text (A1 r) (R1 r) /\ (R1 r).ready=false:=by
 have h:r=0 \/ r=1 \/ r=2:=by omega
 cases h with
 | inl h=>subst h;exact ai (Or.inr (ai (by kernel_rfl) (by kernel_rfl))) (by kernel_rfl)
 | inr h =>
  cases h with
  | inl h=>subst h;exact ai (Or.inl (ai (by kernel_rfl) (ai (aHi text) (ai (aKj text) (by kernel_rfl))))) (by kernel_rfl)
  | inr h=>subst h;exact ai (Or.inl (ai (by kernel_rfl) (ai (aHl text) (ai (aJb text) (by kernel_rfl))))) (by kernel_rfl)
theorem zZ {text : Part → List UInt8} {s : St} (h1 : calm text 700 16 { s with inb := [32] } = true) (h2 : ({ s with inb := [32] }.run text none 16).1 = s) (hi : s.inb = []) (ho : s.out = [75]) (ht : s.told = true) (he : s.ended = false) (hh : s.half = false) :
  gY text { s with inb:=[32] } s /\ gY text s s /\ s.ready=false:=by
 have h3:s.ready=false:=by unfold St.ready;rw [hi,hh];simp
 have h4:({ s with inb:=[32] }:St).ready=true:=by
  show (!s.ended && decide (s.out.length < 64) && (decide (0 < [(32:UInt8)].length) || s.half))=true;rw [he,ho];rfl
 have h5:(s.told && !s.told)=false:=by rw [ht];rfl
 exact ai (Or.inl (ai h4 (ai h1 (ai h2 h5)))) (ai (Or.inr (ai h3 rfl)) h3)
theorem tF (text:Part -> List UInt8) (s:St) (e:Nat):gY text (s.halt e) (s.halt e) /\ (s.halt e).ready=false:=by
 have h:(s.halt e).ready=false:=by unfold St.ready;rw [Gate.halted];rfl
 exact ⟨.inr ⟨h,rfl⟩,h⟩
end Ses
namespace Gate
structure Two (a b:Se) (E:Timer.Ents) (k i1 many:Nat) (g:Ga):Prop where
 n:g.n=2
 slots:g.slots=[some a,some b]
 ids:g.ids=[0,i1]
 many:g.many=many
 rest:g.pu.rest=38600
 now:g.now=k
 turns:g.turns=[0,1] \/ g.turns=[1,0]
 es:fl g.es=E
theorem Two.of_flat {a b:Se} {E:Timer.Ents} {k i1 m:Nat} {g g':Ga} (t:Two a b E k i1 m g) (h:g'.flat=g.flat):Two a b E k i1 m g' :=
 ⟨(congrArg Ga.n h).trans t.n,(congrArg Ga.slots h).trans t.slots,(congrArg Ga.ids h).trans t.ids,(congrArg Ga.many h).trans t.many,(congrArg (fun x=>x.pu.rest) h).trans t.rest,(congrArg Ga.now h).trans t.now,
  by have h1 : g'.flat.turns = g.flat.turns := congrArg Ga.turns h
     have h2:g'.turns=g.turns:=h1
     rw [h2];exact t.turns,(congrArg Ga.es h).trans t.es⟩
def cnt (a b:Se):Nat:=(if a.ready=true then 1 else 0) + (if b.ready=true then 1 else 0)
theorem aHd {T:Esc.bA} {g:Ga} {s t:Se} (i:Nat) (hs:s.ready=true) (hg:Ses.gY (Pip.aO T) s t):(s.run (Pip.aO T) (some fun z=>g.pu.lets i z.toNat) 16).1=t /\ mF g i s t=g.es:=by
 rcases hg with ⟨_,h1,h2,h3⟩ | ⟨h1,_⟩
 ·rw [Ses.rL _ 700 _ (fun z hz=>by rw [Int.toNat_natCast];exact yZ g.pu i z hz) 16 s h1]
  exact ⟨h2,by unfold mF;rw [h3];rfl⟩
 ·rw [hs] at h1;cases h1
theorem Two.run {T : Esc.bA} {a b a' b' : Se} {E : Timer.Ents} {k i1 m : Nat} {g : Ga} (t : Two a b E k i1 m g) (ha : Ses.gY (Pip.aO T) a a') (hb : Ses.gY (Pip.aO T) b b') (ha' : a'.ready = false) (hb' : b'.ready = false) :
  ∃ x y,Two x y E k i1 m (g.run T).2 /\ Ses.gY (Pip.aO T) x a' /\ Ses.gY (Pip.aO T) y b' /\ cnt x y <= cnt a b - 1:=by
 have g0:g.slots[0]? = some (some a):=by rw [t.slots];rfl
 have g1:g.slots[1]? = some (some b):=by rw [t.slots];rfl
 have r0:g.cA 0=a.ready:=by unfold Ga.cA;rw [g0]
 have r1:g.cA 1=b.ready:=by unfold Ga.cA;rw [g1]
 have one:a.ready=true -> g.next=some 0 -> ∃ x y,Two x y E k i1 m (g.run T).2 /\ Ses.gY (Pip.aO T) x a' /\ Ses.gY (Pip.aO T) y b' /\ cnt x y <= cnt a b - 1:=by
  intro h1 h2;refine ⟨a',b,?_,.inr ⟨ha',rfl⟩,hb,by unfold cnt;rw [ha',h1];simp⟩;unfold Ga.run;rw [h2];simp only [g0];obtain ⟨e1,e2⟩:=aHd (g:=g) 0 h1 ha;rw [e1,e2];refine ⟨t.n,by show g.slots.set 0 _=_;rw [t.slots];rfl,t.ids,t.many,t.rest,t.now,?_,t.es⟩;show g.turns.erase 0 ++ [0]=_ \/ g.turns.erase 0 ++ [0]=_;rcases t.turns with h | h <;> rw [h]
  ·exact .inr rfl
  ·exact .inr rfl
 have two:b.ready=true -> g.next=some 1 -> ∃ x y,Two x y E k i1 m (g.run T).2 /\ Ses.gY (Pip.aO T) x a' /\ Ses.gY (Pip.aO T) y b' /\ cnt x y <= cnt a b - 1:=by
  intro h1 h2;refine ⟨a,b',?_,ha,.inr ⟨hb',rfl⟩,by unfold cnt;rw [hb',h1];simp⟩;unfold Ga.run;rw [h2];simp only [g1];obtain ⟨e1,e2⟩:=aHd (g:=g) 1 h1 hb;rw [e1,e2];refine ⟨t.n,by show g.slots.set 1 _=_;rw [t.slots];rfl,t.ids,t.many,t.rest,t.now,?_,t.es⟩;show g.turns.erase 1 ++ [1]=_ \/ g.turns.erase 1 ++ [1]=_;rcases t.turns with h | h <;> rw [h]
  ·exact .inl rfl
  ·exact .inl rfl
 cases h0:a.ready with
 | true =>
  cases h1:b.ready with
  | true =>
   rcases t.turns with h | h
   ·exact one h0 (by unfold Ga.next;rw [h,List.find?_cons,r0,h0])
   ·exact two h1 (by unfold Ga.next;rw [h,List.find?_cons,r1,h1])
  | false =>
   refine one h0 ?_;unfold Ga.next;rcases t.turns with h | h
   ·rw [h,List.find?_cons,r0,h0]
   ·rw [h,List.find?_cons,r1,h1,List.find?_cons,r0,h0]
 | false =>
  cases h1:b.ready with
  | true =>
   refine two h1 ?_;unfold Ga.next;rcases t.turns with h | h
   ·rw [h,List.find?_cons,r0,h0,List.find?_cons,r1,h1]
   ·rw [h,List.find?_cons,r1,h1]
  | false =>
   have hn:g.next=none:=by
    unfold Ga.next;rcases t.turns with h | h
    ·rw [h,List.find?_cons,r0,h0,List.find?_cons,r1,h1];rfl
    ·rw [h,List.find?_cons,r1,h1,List.find?_cons,r0,h0];rfl
   refine ⟨a,b,?_,ha,hb,by unfold cnt;rw [h0,h1];simp⟩;unfold Ga.run;rw [hn];exact t
theorem aIt {text:Json.Part -> List UInt8} {x y a b:Se} (hx:Ses.gY text x a) (hy:Ses.gY text y b) (h:cnt x y=0):x=a /\ y=b:=by
 unfold cnt at h;rcases hx with ⟨h1,_⟩ | ⟨_,h1⟩
 ·rw [ifp h1] at h;omega
 ·rcases hy with ⟨h2,_⟩ | ⟨_,h2⟩
  ·rw [ifp h2] at h;omega
  ·exact ⟨h1.symm,h2.symm⟩
end Gate
end
section
open Go.RowKit
namespace Gate
def ent (i:Nat) (L B A:Int):Nat × Nat × Timer.Rec:=(i,0,⟨L,B,A⟩)
section
variable {T:Esc.bA} {N:Nat} {a b:Se} {E:Timer.Ents} {k i1 m:Nat} {g:Ga}
theorem Two.at0 (t:Two a b E k i1 m g):g.slots[0]? = some (some a):=by rw [t.slots];rfl
theorem Two.at1 (t:Two a b E k i1 m g):g.slots[1]? = some (some b):=by rw [t.slots];rfl
theorem Two.pL (t:Two a b E k i1 m g):g.find 0=some 0:=by
 unfold Ga.find;simp only [t.n,t.ids,t.slots];rfl
theorem Two.yJ (t:Two a b E k i1 m g) (h:i1 % 2=1):g.find (i1:Int)=some 1:=by
 unfold Ga.find;rw [ifn (by omega)];simp only [Int.toNat_natCast,t.n,t.ids,t.slots,h];simp
theorem Two.left (t:Two a b E k i1 m g) (o:g.Ok T N) (ha:a.aH <= 700) (hb:b.aH <= 700):g.pu.left=38600:=by
 unfold Purse.St.left;rw [o.has,t.slots,t.rest,rU];intro x hx;rcases List.mem_cons.1 hx with rfl | h1
 ·exact ha
 ·rw [List.mem_singleton.1 h1];exact hb
theorem Two.aFz (t:Two a b E k i1 m g) (h:Timer.cF (k + 1) E=[]):g.fJ=[] /\ Two a b (Timer.stay (k + 1) E) (k + 1) i1 m g.tick:=by
 have h1:g.fD=[]:=by
  unfold Ga.fD;rw [<- yA,t.es,t.now,h];exact List.eq_nil_of_length_eq_zero (Timer.gX [])
 refine ⟨by unfold Ga.fJ;rw [h1];rfl,?_⟩;unfold Ga.tick;rw [h1];exact ⟨t.n,t.slots,t.ids,t.many,t.rest,by show g.now + 1=_;rw [t.now],t.turns,by show fl (Timer.stay (g.now + 1) g.es)=_;rw [aCj,t.es,t.now]⟩
theorem Two.aBr (t:Two a b E k i1 m g) (h:Timer.cF (k + 1) E=[0]):g.fJ=[0] /\ Two (a.halt 12) b (Timer.stay (k + 1) E) (k + 1) i1 m g.tick:=by
 have h1:g.fD=[0]:=by
  unfold Ga.fD;rw [<- yA,t.es,t.now,h];have h2:=Timer.fY [0];exact List.perm_singleton.1 h2
 refine ⟨by unfold Ga.fJ;rw [h1,t.ids];rfl,?_⟩;unfold Ga.tick;rw [h1];show Two _ _ _ _ _ _ (g.fU.dC 0);rw [pR (s:=a) (by show g.slots[0]? = _;exact t.at0)];exact ⟨t.n,by show g.slots.set 0 _=_;rw [t.slots];rfl,t.ids,t.many,t.rest,by show g.now + 1=_;rw [t.now],t.turns,by show fl (Timer.stay (g.now + 1) g.es)=_;rw [aCj,t.es,t.now]⟩
theorem sV {s:Se} (h1:s.half=false) (h2:s.ended=false) (h3:s.inb.length < 64) (x:UInt8) (R:Nat) (hR:1 <= R):s.cE [x] (R:Int)=1 /\ s.feed [x] (R:Int) = { s with inb:=s.inb ++ [x] }:=by
 have h4:s.cE [x] (R:Int)=1:=by
  unfold Ses.St.cE;rw [h1,h2,Int.toNat_natCast];simp only [Bool.or_false,Bool.false_eq_true,if_false,List.length_singleton];omega
 refine ⟨h4,?_⟩;unfold Ses.St.feed;rw [h4];rfl
theorem Two.aLd (t : Two a b E k i1 m g) (o : g.Ok T N) (ha : a.aH ≤ 700) (hb : b.aH ≤ 700) (h1 : a.half = false) (h2 : a.ended = false) (h3 : a.inb.length < 64) (x : UInt8) :
  (g.chunk 0 [x]).1=1 /\ Two { a with inb:=a.inb ++ [x] } b (Timer.bI E 0 k) k i1 m (g.chunk 0 [x]).2:=by
 unfold Ga.chunk;rw [t.pL];simp only [t.at0];obtain ⟨h5,h6⟩:=sV h1 h2 h3 x (700 - a.aH + g.pu.left) (by rw [t.left o ha hb];omega);rw [h5,h6];exact ⟨rfl,t.n,by show g.slots.set 0 _=_;rw [t.slots];rfl,t.ids,t.many,t.rest,t.now,t.turns,by show fl (Timer.bI g.es 0 g.now)=_;rw [lS,t.es,t.now]⟩
theorem Two.aLq (t : Two a b E k i1 m g) (hi : i1 % 2 = 1) (o : g.Ok T N) (ha : a.aH ≤ 700) (hb : b.aH ≤ 700) (h1 : b.half = false) (h2 : b.ended = false) (h3 : b.inb.length < 64) (x : UInt8) :
  (g.chunk (i1:Int) [x]).1=1 /\ Two a { b with inb:=b.inb ++ [x] } (Timer.bI E 1 k) k i1 m (g.chunk (i1:Int) [x]).2:=by
 unfold Ga.chunk;rw [t.yJ hi];simp only [t.at1];obtain ⟨h5,h6⟩:=sV h1 h2 h3 x (700 - b.aH + g.pu.left) (by rw [t.left o ha hb];omega);rw [h5,h6];exact ⟨rfl,t.n,by show g.slots.set 1 _=_;rw [t.slots];rfl,t.ids,t.many,t.rest,t.now,t.turns,by show fl (Timer.bI g.es 1 g.now)=_;rw [lS,t.es,t.now]⟩
theorem Two.zJ (t : Two a b E k i1 m g) (hi : i1 % 2 = 1) (h2 : b.ended = true) (x : UInt8) :
  (g.chunk (i1:Int) [x]).1=0 /\ Two a b E k i1 m (g.chunk (i1:Int) [x]).2:=by
 unfold Ga.chunk;rw [t.yJ hi];simp only [t.at1];have h4:b.cE [x] ((700 - b.aH + g.pu.left:Nat):Int)=0:=by unfold Ses.St.cE;rw [h2];simp
 have h5:b.feed [x] ((700 - b.aH + g.pu.left:Nat):Int)=b:=by
  unfold Ses.St.feed;rw [h4];simp
 rw [h4,h5];exact ⟨rfl,t.n,by show g.slots.set 1 _=_;rw [t.slots];rfl,t.ids,t.many,t.rest,t.now,t.turns,by rw [ifp rfl];exact t.es⟩
theorem Two.again (t : Two a b E k i1 m g) (hi : i1 % 2 = 1) (hb : b.ended = true) (n : Nat) (hn : b.out.length ≤ n) :
  (g.write (i1:Int) (n:Int)).1=b.out /\ (∀ g':Ga,g'.flat=(g.write (i1:Int) (n:Int)).2.flat -> g'.connect.1=(((1 + 2 * m:Nat):Int),[]) /\ g'.many=m /\
   Two a Ses.St.new (Timer.gone (Timer.bI E 1 k) 1 ++ [ent 1 0 k k]) k (1 + 2 * m) (m + 1) g'.connect.2):=by
 unfold Ga.write;rw [t.yJ hi];simp only [t.at1];rw [ifp ⟨hb,by simpa using hn⟩];refine ⟨rfl,fun g' h=>?_⟩;have e1:g'.slots=[some a,none]:=(congrArg Ga.slots h).trans (by show g.slots.set 1 none=_;rw [t.slots];rfl);have e2:g'.n=2:=(congrArg Ga.n h).trans t.n;have e3:g'.many=m:=(congrArg Ga.many h).trans t.many;have e4:g'.ids=[0,i1]:=(congrArg Ga.ids h).trans t.ids;have e5:g'.now=k:=(congrArg Ga.now h).trans t.now;have e6:g'.turns=[0]:=(congrArg Ga.turns h).trans (by show g.turns.erase 1=_;rcases t.turns with h1 | h1 <;> rw [h1] <;> rfl);have e7:fl g'.es=Timer.gone (Timer.bI E 1 k) 1:=(congrArg Ga.es h).trans (by show fl (g.fO 1)=_;unfold Ga.fO;rw [aJj,lS,t.es,t.now]);have e8:g'.pu.rest=38600:=(congrArg (fun x=>x.pu.rest) h).trans t.rest;unfold Ga.connect;rw [e1];show (((1 + g'.n * g'.many:Nat):Int),([]:List UInt8))=_ /\ _ /\ Two _ _ _ _ _ _ (g'.cH 1 0);rw [e2,e3];refine ⟨rfl,rfl,e2,by show g'.slots.set 1 _=_;rw [e1];rfl,by show g'.ids.set 1 (1 + g'.n * g'.many)=_;rw [e4,e2,e3];rfl,by show g'.many + 1=_;rw [e3],e8,e5,.inl (by show g'.turns ++ [1]=_;rw [e6];rfl),?_⟩;show fl (g'.es ++ [(1,0,(⟨0,(g'.now:Int),(g'.now:Int)⟩:Timer.Rec))])=_;rw [aBn,e7,e5];rfl
end
def Es (L:Nat) (busy gone:Bool) (k:Nat) (B:Int):Timer.Ents:=(if gone then [] else [ent 0 L 0 (if busy then (k:Int) else 0)]) ++ [ent 1 0 B k]
def cN (L:Nat) (busy:Bool):Nat:=if busy then (if L=0 then 0 else L + 1) else (if L=0 then 31 else if L < 30 then L + 1 else 31)
def aM (L:Nat) (busy:Bool) (k:Nat):Bool:=decide (cN L busy ≠ 0 /\ cN L busy <= k)
theorem aAl (k:Nat) (B:Int):Timer.late (k + 1) ⟨0,B,(k:Int)⟩=false:=by
 unfold Timer.late;simp;omega
theorem aBb (L:Nat) (busy:Bool) (k:Nat) (h:aM L busy k=false):Timer.late (k + 1) ⟨(L:Int),0,if busy then (k:Int) else 0⟩=aM L busy (k + 1):=by
 unfold aM at h |-;unfold Timer.late;unfold cN at h |-;rw [Bool.eq_iff_iff];simp only [Bool.or_eq_true,Bool.and_eq_true,decide_eq_true_eq,decide_eq_false_iff_not] at h |-
 cases busy with
 | true =>
  simp only [if_true] at h |-;by_cases hL:L=0
  ·simp only [hL,if_true] at h |-;omega
  ·simp only [hL,if_false] at h |-;omega
 | false =>
  simp only [Bool.false_eq_true,if_false] at h |-;by_cases hL:L=0
  ·simp only [hL,if_true] at h |-;omega
  ·simp only [hL,if_false] at h |-
   by_cases hL2:L < 30
   ·simp only [hL2,if_true] at h |-;omega
   ·simp only [hL2,if_false] at h |-;omega
theorem aGq (L : Nat) (busy : Bool) (k : Nat) (B : Int) : Timer.cF (k + 1) (Es L busy (aM L busy k) k B) = (if aM L busy k = false ∧ aM L busy (k + 1) = true then [0] else []) ∧
  Timer.stay (k + 1) (Es L busy (aM L busy k) k B)=(if aM L busy (k + 1) then [] else [ent 0 L 0 (if busy then (k:Int) else 0)]) ++ [ent 1 0 B k]:=by
 have h2:=aAl k B
 cases hg:aM L busy k with
 | true =>
  have h3:aM L busy (k + 1)=true:=by
   unfold aM at hg |-;simp only [decide_eq_true_eq] at hg |-;omega
  rw [h3];unfold Es Timer.cF Timer.stay ent;simp [h2]
 | false =>
  have h3:=aBb L busy k hg;unfold Es Timer.cF Timer.stay ent
  cases hn:aM L busy (k + 1) with
  | true=>rw [hn] at h3;simp [h2,h3]
  | false=>rw [hn] at h3;simp [h2,h3]
theorem Ga.Ok.lower {T:Esc.bA} {N M:Nat} {g:Ga} (o:g.Ok T M) (h:∀ s,some s ∈ g.slots -> s.Good T N) (hN:N <= 2600):g.Ok T N :=
 ⟨o.pos,o.len,o.timed,o.untimed,o.once,o.has,o.opn,h,o.ids,o.turns,o.turnsOnce,o.turnsLive,o.few,o.many,hN,o.fresh,o.now⟩
def Z0 (s0:Se) (gone:Bool):Se:=if gone then s0.halt 12 else s0
theorem iZ (s0:Se):Z0 s0 true=s0.halt 12:=ifp rfl
theorem jY (s0:Se):Z0 s0 false=s0:=ifn (by decide)
structure Tz (T:Esc.bA) (L:Nat) (s0:Se):Prop where
 calm1:Ses.calm (Pip.aO T) 700 16 { s0 with inb:=[32] }=true
 blank:({ s0 with inb:=[32] }.run (Pip.aO T) none 16).1=s0
 inb:s0.inb=[]
 out:s0.out=[75]
 told:s0.told=true
 ended:s0.ended=false
 half:s0.half=false
 aH:s0.aH <= 700
 good:s0.Good T 16
theorem aJ3 (T:Esc.bA) (L:Nat) (hL:L <= 60):(Ses.T0 (Pip.aO T) L).Good T 16:=by
 have t:=Ses.uX (Pip.aO T) L hL;have:=Ses.rR (T:=T) none 16 0 _ (Ses.aAo T (Pip.aQ (Ses.gK L)) (by rw [t.len];decide)) (by decide);exact this
theorem Tz.aBo {T:Esc.bA} {L:Nat} {s0:Se} (t:Tz T L s0) (gone:Bool):(Z0 s0 gone).Good T 60:=by
 unfold Z0;split
 ·exact (Ses.uG t.good (by rw [t.out];decide) 12).mono (by decide)
 ·exact t.good.mono (by decide)
theorem Tz.wM {T:Esc.bA} {L:Nat} {s0:Se} (t:Tz T L s0) (gone:Bool):(Z0 s0 gone).aH <= 700:=by
 unfold Z0;split
 ·exact Nat.le_trans (Ses.oB _ 12) t.aH
 ·exact t.aH
theorem Tz.aDi {T:Esc.bA} {L:Nat} {s0:Se} (t:Tz T L s0):Ses.gY (Pip.aO T) { s0 with inb:=[32] } s0 /\ Ses.gY (Pip.aO T) s0 s0 /\ s0.ready=false :=
 Ses.zZ t.calm1 t.blank t.inb t.out t.told t.ended t.half
theorem Tz.words {T:Esc.bA} {L:Nat} {s0:Se} (t:Tz T L s0):(s0.halt 12).out=[75,255,12] /\ (s0.halt 12).e=12:=by
 unfold Ses.St.halt Ses.St.stop;rw [t.ended,t.told,t.out];exact ⟨rfl,rfl⟩
theorem kV (T:Esc.bA) (r:Nat) (hr:r < 3):(Ses.A1 r).Good T 60 /\ (Ses.R1 r).Good T 60 /\ (Ses.A1 r).aH <= 700 /\ (Ses.R1 r).aH <= 700:=by
 rcases (show r=0 \/ r=1 \/ r=2 by omega) with rfl | rfl | rfl
 ·exact ⟨⟨by decide,by decide,by decide,fun _=>rfl,(fun h=>by cases h),(fun h=>by cases h),(fun p h=>by cases h)⟩,⟨by decide,by decide,by decide,fun _=>rfl,(fun h=>by cases h),(fun h=>by cases h),(fun p h=>by cases h)⟩,by decide,by decide⟩
 ·exact ⟨⟨by decide,by decide,by decide,fun _=>rfl,(fun h=>by cases h),(fun h=>by cases h),(fun p h=>by cases h)⟩,⟨by decide,by decide,by decide,fun _=>rfl,(fun h=>by cases h),(fun h=>by cases h),(fun p h=>by cases h)⟩,by decide,by decide⟩
 ·exact ⟨⟨by decide,by decide,by decide,fun _=>rfl,(fun h=>by cases h),(fun h=>by cases h),(fun p h=>by cases h)⟩,⟨by decide,by decide,by decide,fun _=>rfl,(fun h=>by cases h),fun _=>⟨rfl,rfl⟩,(fun p h=>by cases h)⟩,by decide,by decide⟩
theorem Two.lower {T:Esc.bA} {M:Nat} {a b:Se} {E:Timer.Ents} {k i1 m:Nat} {g:Ga} (t:Two a b E k i1 m g) (o:g.Ok T M) (ha:a.Good T 60) (hb:b.Good T 60):g.Ok T 60 :=
 o.lower (fun s hs=>by
  rw [t.slots] at hs
  rcases List.mem_cons.1 hs with h | h
  ·rw [Option.some.inj h];exact ha
  ·rw [Option.some.inj (List.mem_singleton.1 h)];exact hb) (by decide)
def E1 (L:Nat) (busy:Bool) (k:Nat) (B:Int):Timer.Ents:=(if aM L busy (k + 1) then [] else [ent 0 L 0 (if busy then (k:Int) else 0)]) ++ [ent 1 0 B k]
def E2 (L:Nat) (busy:Bool) (k:Nat) (B:Int):Timer.Ents:=(if aM L busy (k + 1) then [] else [ent 0 L 0 (if busy then ((k + 1:Nat):Int) else 0)]) ++ [ent 1 0 B k]
theorem aI6 (L:Nat) (k:Nat) (B:Int) (h:aM L true (k + 1)=false):Timer.bI (E1 L true k B) 0 (k + 1)=E2 L true k B:=by
 unfold E1 E2;rw [h];rfl
theorem aKn (L:Nat) (k:Nat) (B:Int):E1 L false k B=E2 L false k B:=rfl
theorem aJg (L:Nat) (busy:Bool) (k:Nat) (B:Int) (h:aM L busy (k + 1)=true):E1 L busy k B=E2 L busy k B:=by
 unfold E1 E2;rw [h];rfl
theorem aLh (L:Nat) (busy:Bool) (k:Nat) (B:Int):Timer.bI (E2 L busy k B) 1 (k + 1)=Es L busy (aM L busy (k + 1)) (k + 1) B:=by
 unfold E2 Es
 cases aM L busy (k + 1) <;> rfl
theorem aLl (L:Nat) (busy:Bool) (k:Nat) (B:Int):Timer.gone (Timer.bI (E2 L busy k B) 1 (k + 1)) 1 ++ [ent 1 0 ((k + 1:Nat):Int) ((k + 1:Nat):Int)]=Es L busy (aM L busy (k + 1)) (k + 1) ((k + 1:Nat):Int):=by
 unfold E2 Es
 cases aM L busy (k + 1) <;> rfl
section
variable {T:Esc.bA} {N L k i1 m:Nat} {busy:Bool} {b:Se} {B:Int} {g:Ga}
theorem Two.aJu {s0 : Se} (t : Two (Z0 s0 (aM L busy k)) b (Es L busy (aM L busy k) k B) k i1 m g) :
  g.fJ=(if aM L busy k=false /\ aM L busy (k + 1)=true then [0] else []) /\ Two (Z0 s0 (aM L busy (k + 1))) b (E1 L busy k B) (k + 1) i1 m g.tick:=by
 obtain ⟨h1,h2⟩:=aGq L busy k B;have h3:aM L busy k=true -> aM L busy (k + 1)=true:=by
  unfold aM;simp only [decide_eq_true_eq];omega
 by_cases hc:aM L busy k=false /\ aM L busy (k + 1)=true
 ·rw [ifp hc] at h1 |-
  obtain ⟨h4,h5⟩:=t.aBr h1;rw [h2] at h5;refine ⟨h4,?_⟩;rw [hc.1,jY] at h5;rw [hc.2,iZ];unfold E1;rw [hc.2] at h5 |-;exact h5
 ·rw [ifn hc] at h1 |-
  obtain ⟨h4,h5⟩:=t.aFz h1;rw [h2] at h5;refine ⟨h4,?_⟩;have h6:aM L busy (k + 1)=aM L busy k:=by
   cases ha:aM L busy k with
   | true=>exact h3 ha
   | false =>
    cases hb:aM L busy (k + 1) with
    | false=>rfl
    | true=>exact absurd ⟨ha,hb⟩ hc
  rw [h6];unfold E1;rw [h6] at h5 |-;exact h5
end
def B0:Ga:=Ga.new 40000 2
def B1:Ga:=B0.connect.2
def B2:Ga:=B1.connect.2
theorem B0_conn:B0.connect.1=(0,[]):=rfl
theorem B1_conn:B1.connect.1=(3,[]):=rfl
theorem B2_two:Two Ses.St.new Ses.St.new [ent 0 0 0 0,ent 1 0 0 0] 0 3 2 B2:=⟨rfl,rfl,rfl,rfl,rfl,rfl,.inl rfl,rfl⟩
theorem sW {g G:Ga} (h:g.flat=G.flat):g.connect.1=G.connect.1 /\ g.connect.2.flat=G.connect.2.flat:=by
 rw [<- (gN g).1,<- (gN G).1,<- (gN g).2,<- (gN G).2,h];exact ⟨rfl,rfl⟩
theorem aB0 (b:List UInt8) (R:Nat) (hb:b.length <= 64) (hR:64 <= R):Ses.St.new.cE b (R:Int)=b.length /\ Ses.St.new.feed b (R:Int)=Ses.fresh b:=by
 have h1:(Ses.fresh []).cE b (R:Int)=b.length:=by
  rw [Ses.yH,Int.toNat_natCast];simp only [List.length_nil];omega
 refine ⟨h1,?_⟩;show (Ses.fresh []).feed b (R:Int)=_;rw [Ses.aBl,h1,List.take_length,List.nil_append]
theorem aE0 {T : Esc.bA} {N L : Nat} {g : Ga} (hL : L ≤ 60) (t : Two Ses.St.new Ses.St.new [ent 0 0 0 0, ent 1 0 0 0] 0 3 2 g) (_o : g.Ok T N) :
  Two (Ses.fresh (Pip.aQ (Ses.gK L))) Ses.St.new [ent 0 0 0 0,ent 1 0 0 0] 0 3 2 (g.chunk 0 (Pip.aQ (Ses.gK L))).2:=by
 have q:=Ses.uX (Pip.aO T) L hL;have hc:Ses.St.new.aH=2:=rfl;obtain ⟨h5,h6⟩:=aB0 (Pip.aQ (Ses.gK L)) (700 - Ses.St.new.aH + g.pu.left) (by rw [q.len];decide) (by rw [hc];omega);unfold Ga.chunk;rw [t.pL];simp only [t.at0];rw [h5,h6,q.len];exact ⟨t.n,by show g.slots.set 0 _=_;rw [t.slots];rfl,t.ids,t.many,t.rest,t.now,t.turns,by show fl (Timer.bI g.es 0 g.now)=_;rw [lS,t.es,t.now];rfl⟩
theorem aIp {T : Esc.bA} {L : Nat} {g : Ga} {s0 : Se} (q : Ses.calm (Pip.aO T) 700 16 (Ses.fresh (Pip.aQ (Ses.gK L))) = true) (qr : (Ses.fresh (Pip.aQ (Ses.gK L))).ready = true) (hs : ((Ses.fresh (Pip.aQ (Ses.gK L))).run (Pip.aO T) none 16).1 = s0) (ht : s0.told = true) (hl : s0.setup.limit = (L : Int)) (busy : Bool)
  (t:Two (Ses.fresh (Pip.aQ (Ses.gK L))) Ses.St.new [ent 0 0 0 0,ent 1 0 0 0] 0 3 2 g):Two s0 (Ses.A1 0) (Es L busy false 0 0) 0 3 2 (g.run T).2:=by
 generalize hf:Ses.fresh (Pip.aQ (Ses.gK L))=f0 at q qr hs t;have hft:f0.told=false:=by rw [<- hf];rfl
 have r0:g.cA 0=true:=by unfold Ga.cA;rw [t.at0];exact qr
 have r1:g.cA 1=false:=by unfold Ga.cA;rw [t.at1];rfl
 have hn:g.next=some 0:=by
  unfold Ga.next;rcases t.turns with h | h
  ·rw [h,List.find?_cons,r0]
  ·rw [h,List.find?_cons,r1,List.find?_cons,r0]
 unfold Ga.run;rw [hn];simp only [t.at0];rw [Ses.rL _ 700 _ (fun z hz=>by rw [Int.toNat_natCast];exact yZ g.pu 0 z hz) 16 _ q,hs];refine ⟨t.n,by show g.slots.set 0 _=_;rw [t.slots];rfl,t.ids,t.many,t.rest,t.now,?_,?_⟩
 ·show g.turns.erase 0 ++ [0]=_ \/ g.turns.erase 0 ++ [0]=_
  rcases t.turns with h | h <;> rw [h]
  ·exact .inr rfl
  ·exact .inr rfl
 ·show fl (mF g 0 f0 s0)=_
  unfold mF;rw [ht,hft];show fl (Timer.eJ g.es 0 s0.setup.limit)=_;rw [aGi,t.es,hl]
  cases busy <;> rfl
theorem aL4 (T : Esc.bA) (L : Nat) (hL : L ≤ 60) : ∃ s0, Tz T L s0 ∧ ∀ (g : Ga) (busy : Bool), Two (Ses.fresh (Pip.aQ (Ses.gK L))) Ses.St.new [ent 0 0 0 0, ent 1 0 0 0] 0 3 2 g →
  Two s0 (Ses.A1 0) (Es L busy false 0 0) 0 3 2 (g.run T).2:=by
 have q:=Ses.uX (Pip.aO T) L hL;exact ⟨Ses.T0 (Pip.aO T) L,⟨q.calm1,q.blank,q.inb,q.out,q.told,q.ended,q.half,q.aH,aJ3 T L hL⟩,fun g busy t=>aIp q.calm0 q.ready (by unfold Ses.T0;exact Eq.refl _) q.told q.limit busy t⟩
end Gate
end
end Go.Proofs.YtcjflgmcjfcodaaGreat
