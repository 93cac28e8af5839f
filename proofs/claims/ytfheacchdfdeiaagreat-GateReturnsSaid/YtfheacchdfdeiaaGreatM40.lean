/- Texts of the walk, joined. -/
import Derived.Test.YtfheacchdfdeiaaGreatM36
import Derived.Test.YtfheacchdfdeiaaGreatM37
import Derived.Test.YtfheacchdfdeiaaGreatM38
import Derived.Test.YtfheacchdfdeiaaGreatM39
import Derived.Deep.RegionWith
import Derived.StillTailTactics
set_option maxRecDepth 100000
set_option maxHeartbeats 8000000
namespace Go.Proofs.YtfheacchdfdeiaaGreat
section
open Go.RowKit
namespace Gate
abbrev Se:=Ses.St
def chargeO:Option Se -> Nat
 | none=>0
 | some s=>s.aN
inductive dJ:List (Option Se) -> List Value -> Own.Heap -> Prop where
 | nil:dJ [] [] []
 | free {ss:List (Option Se)} {vs:List Value} {h:Own.Heap} (k:dJ ss vs h):dJ (none :: ss) (.pointer none :: vs) h
 | used {ss:List (Option Se)} {vs:List Value} {h:Own.Heap} {s:Se} {b:Nat} {h0:Own.Heap} (i:Ses.Is s b h0) (k:dJ ss vs h):dJ (some s :: ss) (.pointer (some ⟨b,0,none⟩) :: vs) (h0 ++ h)
theorem dJ.length {ss:List (Option Se)} {vs:List Value} {h:Own.Heap} (k:dJ ss vs h):vs.length=ss.length:=by
 induction k with
 | nil=>rfl
 | free _ ih=>simp [ih]
 | used _ _ ih=>simp [ih]
theorem dJ.lI {ss : List (Option Se)} {vs : List Value} {h : Own.Heap} (k : dJ ss vs h) : ∀ i, ss[i]? = some none →
  vs[i]? = some (.pointer none) /\ ∃ h1 h2,h=h1 ++ h2 /\ ∀ s b h0,Ses.Is s b h0 -> dJ (ss.set i (some s)) (vs.set i (.pointer (some ⟨b,0,none⟩))) (h1 ++ (h0 ++ h2)):=by
 induction k with
 | nil=>intro i hi;simp at hi
 | @free ss vs h k ih =>
  intro i hi
  cases i with
  | zero=>exact ⟨rfl,[],h,rfl,fun s b h0 is=>(dJ.used is k:dJ _ _ (h0 ++ h))⟩
  | succ i =>
   obtain ⟨h1,a,b,h2,h3⟩:=ih i (by simpa using hi);exact ⟨by simpa using h1,a,b,h2,fun s bb h0 is=>.free (h3 s bb h0 is)⟩
 | @used ss vs h s b h0 is k ih =>
  intro i hi
  cases i with
  | zero=>simp at hi
  | succ i =>
   obtain ⟨h1,a,c,h2,h3⟩:=ih i (by simpa using hi);refine ⟨by simpa using h1,h0 ++ a,c,by rw [h2,List.append_assoc],fun s' bb h0' is'=>?_⟩;have:=dJ.used is (h3 s' bb h0' is');rw [<- List.append_assoc] at this;exact this
theorem dJ.dX {ss : List (Option Se)} {vs : List Value} {h : Own.Heap} (k : dJ ss vs h) : ∀ i s, ss[i]? = some (some s) →
  ∃ b h1 h0 h2,vs[i]? = some (.pointer (some ⟨b,0,none⟩)) /\ h=h1 ++ (h0 ++ h2) /\ Ses.Is s b h0 /\ (∀ s' h0',Ses.Is s' b h0' -> dJ (ss.set i (some s')) vs (h1 ++ (h0' ++ h2))) /\
   dJ (ss.set i none) (vs.set i (.pointer none)) (h1 ++ h2):=by
 induction k with
 | nil=>intro i s hi;simp at hi
 | @free ss vs h k ih =>
  intro i s hi
  cases i with
  | zero=>simp at hi
  | succ i =>
   obtain ⟨b,h1,h0,h2,a1,a2,a3,a4,a5⟩:=ih i s (by simpa using hi);exact ⟨b,h1,h0,h2,by simpa using a1,a2,a3,fun s' h0' is=>.free (a4 s' h0' is),.free a5⟩
 | @used ss vs h s0 b0 h00 is0 k ih =>
  intro i s hi
  cases i with
  | zero =>
   obtain rfl:s0=s:=by simpa using hi
   exact ⟨b0,[],h00,h,rfl,rfl,is0,fun s' h0' is=>(dJ.used is k:dJ _ _ (h0' ++ h)),.free k⟩
  | succ i =>
   obtain ⟨b,h1,h0,h2,a1,a2,a3,a4,a5⟩:=ih i s (by simpa using hi);refine ⟨b,h00 ++ h1,h0,h2,by simpa using a1,by rw [a2,List.append_assoc],a3,fun s' h0' is=>?_,?_⟩
   ·have:=dJ.used is0 (a4 s' h0' is)
    rw [<- List.append_assoc] at this;exact this
   ·have:=dJ.used is0 a5
    rw [<- List.append_assoc] at this;exact this
structure Ga where
 n:Nat
 slots:List (Option Se)
 ids:List Nat
 many:Nat
 pu:Purse.St
 turns:List Nat
 es:Timer.Ents
 now:Nat
def front (n sb ib many pb wb:Nat):List Value :=
 [.slice (some ⟨sb,0,none⟩) n n,.slice (some ⟨ib,0,none⟩) n n,.int .i64 (many:Int),.pointer (some ⟨pb,0,none⟩),.pointer (some ⟨wb,0,none⟩)]
structure Lay where
 (gb sb ib pb hb ob wb:Nat)
 mv:Value
 vs:List Value
 (hw ht hs:Own.Heap)
def Lay.row (l:Lay) (g:Ga):Nat × Obj:=Timer.at_ l.gb 68 (front g.n l.sb l.ib g.many l.pb l.wb) g.now l.mv []
def Lay.lU (l:Lay):Nat × Obj:=Own.row l.sb 69 l.vs
def Lay.lX (l:Lay) (g:Ga):Nat × Obj:=Own.row l.ib 3 (Purse.ints g.ids)
def Lay.dQ (l:Lay) (g:Ga):Own.Heap:=Purse.heap g.pu l.pb l.hb l.ob
def Lay.heap (l:Lay) (g:Ga):Own.Heap:=l.row g :: l.lU :: l.lX g :: (l.dQ g ++ (l.hw ++ (l.ht ++ l.hs)))
structure Lay.Good (l:Lay) (g:Ga):Prop where
 len:g.slots.length=g.n
 ids:g.ids.length=g.n
 pun:g.pu.has.length=g.n
 pu:g.pu.Fits
 wheel:Wheel.Is g.n g.turns l.wb l.hw
 timer:Timer.Map g.many g.es l.mv l.ht
 slots:dJ g.slots l.vs l.hs
section
variable {l:Lay} {g:Ga} {w:World}
theorem Lay.Good.small (k:l.Good g):g.n <= 8:=by rw [<- k.pun,k.pu.same];exact k.pu.few
theorem Lay.Good.uR (k:l.Good g):l.vs.length=g.n:=k.slots.length.trans k.len
theorem Lay.qG (l:Lay) (g:Ga):l.row g ∈ l.heap g:=List.mem_cons_self ..
theorem Lay.aDz (l:Lay) (g:Ga):l.lU ∈ l.heap g:=mcm _ mcs
theorem Lay.aIv (l:Lay) (g:Ga):l.lX g ∈ l.heap g:=mcm _ (mcm _ mcs)
theorem cell (h:Own.Has w (l.heap g)) (j:Nat) (v:Value) (hj:(front g.n l.sb l.ib g.many l.pb l.wb)[j]? = some v):w.cell? ⟨l.gb,j,none⟩=some v:=by
 refine h.cell l.gb _ _ (l.qG g) j v ?_;have:j < (front g.n l.sb l.ib g.many l.pb l.wb).length:=(List.getElem?_eq_some_iff.1 hj).1;rw [List.getElem?_append_left this];exact hj
theorem free (h:Own.Has w (l.heap g)) (j:Nat):w.frozen? ⟨l.gb,j,none⟩=false:=h.free l.gb _ _ (l.qG g) j
theorem jS (h:Own.Has w (l.heap g)) (j:Nat) (v:Value) (hj:l.vs[j]? = some v):w.cell? ⟨l.sb,j,none⟩=some v:=h.cell l.sb _ _ (l.aDz g) j v hj
theorem aE1 (h:Own.Has w (l.heap g)) (j:Nat):w.frozen? ⟨l.sb,j,none⟩=false:=h.free l.sb _ _ (l.aDz g) j
theorem nK (h:Own.Has w (l.heap g)) (j:Nat) (hj:j < g.ids.length):w.cell? ⟨l.ib,j,none⟩=some (.int .i64 ((g.ids[j]'hj:Nat):Int)):=h.cell l.ib _ _ (l.aIv g) j _ (by simp [Purse.ints,hj])
theorem aI4 (h:Own.Has w (l.heap g)) (j:Nat):w.frozen? ⟨l.ib,j,none⟩=false:=h.free l.ib _ _ (l.aIv g) j
theorem eH (l:Lay) (g:Ga):(l.heap g).Perm (l.dQ g ++ (l.row g :: l.lU :: l.lX g :: (l.hw ++ (l.ht ++ l.hs)))):=by
 refine Own.aE _ _ fun x=>?_
 unfold Lay.heap;simp only [List.count_append,List.count_cons];omega
theorem dQ (h:Own.Has w (l.heap g)):Own.Has w (l.dQ g):=(h.perm (eH l g)).left
theorem dV (l:Lay) (g:Ga) (h1 h0 h2:Own.Heap) (e:l.hs=h1 ++ (h0 ++ h2)):(l.heap g).Perm (h0 ++ (l.row g :: l.lU :: l.lX g :: (l.dQ g ++ (l.hw ++ (l.ht ++ (h1 ++ h2)))))):=by
 refine Own.aE _ _ fun x=>?_
 unfold Lay.heap;rw [e];simp only [List.count_append,List.count_cons];omega
theorem fK (h:Own.Has w (l.heap g)) (h1 h0 h2:Own.Heap) (e:l.hs=h1 ++ (h0 ++ h2)):Own.Has w h0:=(h.perm (dV l g h1 h0 h2 e)).left
def Ga.cV (g:Ga) (i x:Nat):Ga:={ g with pu:=g.pu.put i x }
theorem Lay.Good.cV (k:l.Good g) (i x:Nat) (h:i < g.n) (hm:Purse.over x <= g.pu.left + Purse.over (g.pu.has.getD i 0)):l.Good (g.cV i x) :=
 ⟨k.len,k.ids,(List.length_set ..).trans k.pun,k.pu.put i x (by rw [k.pun];exact h) hm,k.wheel,k.timer,k.slots⟩
theorem cF {T : Esc.bI} {N : Nat} (k : l.Good g) (h : Own.Has w (l.heap g)) (i : Nat) (s : Se) (hs : g.slots[i]? = some (some s)) (ho : g.pu.opn[i]? = some true) (hg : s.Good T N) (hN : N ≤ 2600) (hm : Purse.over s.aN ≤ g.pu.left + Purse.over (g.pu.has.getD i 0)) :
  Calls Tryz.prog 31 #[.pointer (some ⟨l.gb,0,none⟩),.int .i64 (i:Int)] w fun e w'=>(∃ v,e = .returned v) /\
   l.Good (g.cV i s.aN) /\ Own.aA (l.heap g) (l.heap (g.cV i s.aN)) w w':=by
 have hi:i < g.n:=by rw [<- k.len];exact (List.getElem?_eq_some_iff.1 hs).1
 have hip:i < g.pu.has.length:=by rw [k.pun];exact hi
 obtain ⟨b,h1,h0,h2,a1,a2,a3,a4,a5⟩:=k.slots.dX i s hs;have c0:=cell h 0 _ rfl;have c3:=cell h 3 _ rfl;have cs:=jS h i _ a1;have ho2:g.pu.opn[i]'(k.pu.same ▸ hip)=true:=by
  rw [List.getElem?_eq_getElem (k.pu.same ▸ hip)] at ho;exact Option.some.inj ho
 have hle:=Ses.rM hg;have hl:g.pu.lets i s.aN=true:=by unfold Purse.St.lets;simpa using hm
 have HC:=hhh (fun W (hW:Own.Has W h0)=>Ses.cF a3 hW hg hN);have H0:=hhh (fK h h1 h0 h2 a2);have HS:=fun W (hW:Own.Has W (l.dQ g))=>Purse.uY hW k.pu i s.aN hip (by omega) ho2
 rw [hl] at HS;simp only [Purse.St.set,if_pos hl] at HS;have HS:=hhh HS;have HG:=hhh (k.cV i s.aN hi hm);have hI:(i:Int) < (g.n:Int):=by omega
 have HH:=hhh h;obtain ⟨C,hC⟩:∃ C,C=s.aN:=⟨_,rfl⟩;rw [<- hC] at HC HS HG |-;clear hC hm ho ho2 hl hle a4 a5 a3 a2 hs hip hg hN;go_enter Tryz.func31,Tryz.ntmps31;go_wp2;go_region_with (first | (refine (HC.o _ H0.o.drew).mono ?_;rintro e W1 ⟨rfl,n1,rfl⟩) | (refine (HS.o _ ((dQ HH.o).drewN _)).mono ?_;rintro e W1 ⟨rfl,ht⟩))
 all_goals go_wp2
 all_goals go_end0
 all_goals exact ⟨⟨_,rfl⟩,HG.o,((Own.aA.refl HH.o).drewN _).trans (Own.aA.focus (HH.o.drewN _) (eH l g) (fun _=>ht) (eH l (g.cV i C)))⟩
end
end Gate
end
section
open Go.RowKit
namespace Gate
section
variable {l:Lay} {g:Ga} {w:World}
theorem aG2 (a l:Nat):((a:Int)).tmod (l:Int)=((a % l:Nat):Int):=by
 rw [Int.tmod_eq_emod_of_nonneg (by omega),Int.natCast_emod]
def Ga.find (g:Ga) (id:Int):Option Nat :=
 if id < 0 then none
 else
  let i:=id.toNat % g.n
  match g.slots[i]? with
  | some (some _)=>if g.ids[i]? = some id.toNat then some i else none
  | _=>none
def mR (l:Lay) (o:Option Nat):Ending :=
 match o with
 | none=>.returned (.tuple #[.pointer none,.int .i64 0])
 | some i=>.returned (.tuple #[(l.vs[i]?).getD undef,.int .i64 (i:Int)])
theorem pG (k : l.Good g) (h : Own.Has w (l.heap g)) (id : Int) (h0 : 0 < g.n) :
  Calls Tryz.prog 35 #[.pointer (some ⟨l.gb,0,none⟩),.int .i64 id] w fun e w'=>e=mR l (g.find id) /\ w'=w:=by
 have c0:=cell h 0 _ rfl;have c1:=cell h 1 _ rfl;have h8:=k.small;by_cases hneg:id < 0
 ·have HF:=hhh (show g.find id=none by unfold Ga.find;rw [if_pos hneg])
  clear h k;go_enter Tryz.func35,Tryz.ntmps35;go_wp2;go_ret2;rw [HF.o];exact ⟨rfl,rfl⟩
 ·obtain ⟨a,rfl⟩:∃ a:Nat,id=(a:Int):=⟨id.toNat,by omega⟩
  obtain ⟨i,hi⟩:∃ i,i=a % g.n:=⟨_,rfl⟩;have hil:i < g.n:=by rw [hi];exact Nat.mod_lt _ h0
  have hrem:=aG2 a g.n;have hrem':(a:Int) % (g.n:Int)=(i:Int):=by rw [hi,Int.natCast_emod]
  rw [<- hi] at hrem;have hI:(i:Int) < (g.n:Int):=by omega
  have hiv:i < l.vs.length:=by rw [k.uR];exact hil
  have hii:i < g.ids.length:=by rw [k.ids];exact hil
  have cs:=jS h i _ (List.getElem?_eq_getElem hiv);have ci:=nK h i hii;have hsl:i < g.slots.length:=by rw [k.len];exact hil
  cases hs:g.slots[i]'hsl with
  | none =>
   have hs':g.slots[i]? = some none:=by rw [List.getElem?_eq_getElem hsl,hs]
   obtain ⟨hv,_⟩:=k.slots.lI i hs';rw [List.getElem?_eq_getElem hiv] at hv;rw [Option.some.inj hv] at cs;have HF:=hhh (show g.find (a:Int)=none by unfold Ga.find;rw [if_neg hneg];simp only [Int.toNat_natCast,<- hi,hs']);have Hid:=hhh (And.intro h8 (And.intro h0 (And.intro hi hsl)));clear h k hs hs' hv hi hneg hsl h8;go_enter Tryz.func35,Tryz.ntmps35;go_wp2;go_ret2;rw [HF.o];exact ⟨rfl,rfl⟩
  | some s =>
   have hs':g.slots[i]? = some (some s):=by rw [List.getElem?_eq_getElem hsl,hs]
   obtain ⟨b,_,_,_,hv,_⟩:=k.slots.dX i s hs';have HV:=hhh hv;rw [List.getElem?_eq_getElem hiv] at hv;rw [Option.some.inj hv] at cs;obtain ⟨y,hy⟩:∃ y,y=g.ids[i]'hii:=⟨_,rfl⟩;rw [<- hy] at ci;have hyi:g.ids[i]? = some y:=by rw [List.getElem?_eq_getElem hii,hy]
   by_cases hya:y=a
   ·have ht:((y:Int) == (a:Int))=true:=by rw [hya];simp
    have HF:=hhh (show g.find (a:Int)=some i by unfold Ga.find;rw [if_neg hneg];simp only [Int.toNat_natCast,<- hi,hs',hyi,hya];rw [if_pos trivial]);have Hid:=hhh (And.intro h8 (And.intro h0 (And.intro hi (And.intro hsl hya))));clear h k hs hs' hv hi hneg hsl h8 hy hyi hya;go_enter Tryz.func35,Tryz.ntmps35;go_wp2;go_ret2;rw [HF.o];exact ⟨by simp only [mR,HV.o];rfl,rfl⟩
   ·have ht:((y:Int) == (a:Int))=false:=by rw [beq_eq_false_iff_ne];omega
    have HF:=hhh (show g.find (a:Int)=none by unfold Ga.find;rw [if_neg hneg];simp only [Int.toNat_natCast,<- hi,hs',hyi];rw [if_neg (by intro e;exact hya (Option.some.inj e))]);have Hid:=hhh (And.intro h8 (And.intro h0 (And.intro hi (And.intro hsl hya))));clear h k hs hs' hv hi hneg hsl h8 hy hyi hya;go_enter Tryz.func35,Tryz.ntmps35;go_wp2;go_ret2;rw [HF.o];exact ⟨rfl,rfl⟩
end
end Gate
end
section
open Go.RowKit
namespace Gate
structure Ga.Ok (T:Esc.bI) (N:Nat) (g:Ga):Prop where
 pos:0 < g.n
 len:g.slots.length=g.n
 timed:∀ i s,g.slots[i]? = some (some s) -> i ∈ g.es.map Prod.fst
 untimed:∀ i,g.slots[i]? = some none -> i ∉ g.es.map Prod.fst
 once:(g.es.map Prod.fst).Nodup
 has:g.pu.has=g.slots.map chargeO
 opn:g.pu.opn=g.slots.map Option.isSome
 fK:∀ s,some s ∈ g.slots -> s.Good T N
 ids:∀ x ∈ g.ids,x <= 100000
 turns:∀ i,g.slots[i]? = some none -> i ∉ g.turns
 turnsOnce:g.turns.Nodup
 turnsLive:∀ i s,g.slots[i]? = some (some s) -> i ∈ g.turns
 few:g.turns.length <= 500
 many:g.many <= 900
 cap:N <= 2600
theorem zD (l:List Nat) (h:∀ x ∈ l,x <= 700):Purse.cR l=0:=by
 unfold Purse.cR
 induction l with
 | nil=>rfl
 | cons x l ih =>
  rw [List.map_cons,List.sum_cons,ih fun y hy=>h y (mcm _ hy)];have:=h x mcs;unfold Purse.over;omega
section
variable {T:Esc.bI} {N:Nat}
theorem Ga.Ok.lS {g:Ga} (o:g.Ok T N) (i:Nat) (s:Se) (hs:g.slots[i]? = some (some s)):g.pu.has[i]? = some s.aN:=by
 rw [o.has,List.getElem?_map,hs];rfl
theorem Ga.Ok.iB {g:Ga} (o:g.Ok T N) (i:Nat) (s:Se) (hs:g.slots[i]? = some (some s)):g.pu.opn[i]? = some true:=by
 rw [o.opn,List.getElem?_map,hs];rfl
end
section
variable {T:Esc.bI} {N:Nat} {l:Lay} {g:Ga} {w:World}
theorem fU (k:l.Good g) (h:Own.Has w (l.heap g)):Calls Tryz.prog 13 #[.pointer (some ⟨l.gb,0,none⟩)] w fun e w'=>e = .returned (.int .i64 (g.pu.has.sum:Int)) /\ w'=w:=by
 have c3:=cell h 3 _ rfl;have HT:=hhh (Purse.fU (dQ h) k.pu);clear h k;go_enter Tryz.func13,Tryz.ntmps13;go_wp2_with (fail);refine HT.o.mono ?_;rintro e W1 ⟨rfl,rfl⟩;go_wp2;go_ret;exact ⟨rfl,rfl⟩
def Ga.told (g:Ga):Option Nat -> Nat
 | none=>0
 | some i=>g.pu.has.getD i 0
theorem aCo {id:Int} {i:Nat} (h:g.find id=some i):∃ s,g.slots[i]? = some (some s):=by
 unfold Ga.find at h;split at h
 ·simp at h
 ·dsimp only at h
  split at h
  ·rename_i s hs
   split at h
   ·obtain rfl:=Option.some.inj h
    exact ⟨s,hs⟩
   ·simp at h
  ·simp at h
theorem fL (k : l.Good g) (o : g.Ok T N) (h : Own.Has w (l.heap g)) (id : Int) :
  Calls Tryz.prog 14 #[.pointer (some ⟨l.gb,0,none⟩),.int .i64 id] w fun e w'=>e = .returned (.int .i64 (g.told (g.find id):Int)) /\ w'=w:=by
 have c3:=cell h 3 _ rfl;have HO:=hhh (pG k h id o.pos)
 cases hf:g.find id with
 | none =>
  rw [hf] at HO;have HT:=hhh (show g.told none=0 from rfl);clear h k o hf;go_enter Tryz.func14,Tryz.ntmps14;go_wp2_with (fail);refine HO.o.mono ?_;rintro e W1 ⟨rfl,rfl⟩;unfold mR;go_wp2;go_ret;exact ⟨rfl,rfl⟩
 | some i =>
  rw [hf] at HO;obtain ⟨s,hs⟩:=aCo hf;have ha:=o.lS i s hs;have hil:i < g.pu.has.length:=(List.getElem?_eq_some_iff.1 ha).1;obtain ⟨b,_,_,_,hv,_⟩:=k.slots.dX i s hs;have ho:=o.iB i s hs;rw [List.getElem?_eq_getElem (k.pu.same ▸ hil)] at ho;have HP:=hhh (Purse.aG4 (dQ h) k.pu i hil (Option.some.inj ho));have HT:=hhh (show g.told (some i)=g.pu.has[i]'hil by simp [Ga.told,List.getD_eq_getElem?_getD,hil]);have HV:=hhh hv;clear h k o hf hs ha ho hv;rw [HT.o];go_enter Tryz.func14,Tryz.ntmps14;go_wp2_with (fail);refine HO.o.mono ?_;rintro e W1 ⟨rfl,rfl⟩;simp only [mR,HV.o];go_wp2_with (fail);refine HP.o.mono ?_;rintro e W1 ⟨rfl,rfl⟩;go_wp2;go_ret;exact ⟨rfl,rfl⟩
end
end Gate
end
section
open Go.RowKit
namespace Gate
theorem iT (es:Timer.Ents) (k:Nat) (h:k ∈ es.map Prod.fst):∃ A c r B,es=A ++ (k,c,r) :: B /\ ∀ e ∈ A,e.1 ≠ k:=by
 induction es with
 | nil=>simp at h
 | cons e es ih =>
  by_cases hk:e.1=k
  ·obtain ⟨k',c,r⟩:=e
   simp only at hk;subst hk;exact ⟨[],c,r,es,rfl,by simp⟩
  ·have h2:k ∈ es.map Prod.fst:=by
    rw [List.map_cons] at h;rcases List.mem_cons.1 h with h1 | h1
    ·exact absurd h1.symm hk
    ·exact h1
   obtain ⟨A,c,r,B,h3,h4⟩:=ih h2;refine ⟨e :: A,c,r,B,by rw [h3];rfl,fun e' he'=>?_⟩;rcases List.mem_cons.1 he' with rfl | h5
   ·exact hk
   ·exact h4 e' h5
def Ga.dT (g:Ga) (i:Nat) (s:Se):Ga:={ g with slots:=g.slots.set i (some s) }
theorem Lay.Good.dT {l:Lay} {g:Ga} (k:l.Good g) (i:Nat) (s:Se) (hs:Own.Heap) (sl:dJ (g.slots.set i (some s)) l.vs hs):({ l with hs:=hs }:Lay).Good (g.dT i s) :=
 ⟨(List.length_set ..).trans k.len,k.ids,k.pun,k.pu,k.wheel,k.timer,sl⟩
theorem Ga.Ok.dT {T:Esc.bI} {N:Nat} {g:Ga} (o:g.Ok T N) (i:Nat) (s t:Se) (hs:g.slots[i]? = some (some s)) (ht:t.Good T N):((g.dT i t).cV i t.aN).Ok T N where
 pos:=o.pos
 len:=(List.length_set ..).trans o.len
 timed:=by
  intro j u hj;by_cases hij:i=j
  ·subst hij;exact o.timed i s hs
  ·exact o.timed j u (by rw [show ((g.dT i t).cV i t.aN).slots=g.slots.set i (some t) from rfl,List.getElem?_set_ne hij] at hj;exact hj)
 untimed:=by
  intro j hj;by_cases hij:i=j
  ·subst hij
   have hl:i < g.slots.length:=(List.getElem?_eq_some_iff.1 hs).1;rw [show ((g.dT i t).cV i t.aN).slots=g.slots.set i (some t) from rfl,List.getElem?_set_self hl] at hj;simp at hj
  ·exact o.untimed j (by rw [show ((g.dT i t).cV i t.aN).slots=g.slots.set i (some t) from rfl,List.getElem?_set_ne hij] at hj;exact hj)
 once:=o.once
 has:=by
  show g.pu.has.set i t.aN=(g.slots.set i (some t)).map chargeO;rw [o.has,List.map_set];rfl
 opn:=by
  show g.pu.opn=(g.slots.set i (some t)).map Option.isSome;rw [o.opn,List.map_set];have:(g.slots.map Option.isSome)[i]? = some true:=by rw [List.getElem?_map,hs];rfl
  apply List.ext_getElem?;intro j;by_cases hij:i=j
  ·subst hij
   have hl:i < (g.slots.map Option.isSome).length:=(List.getElem?_eq_some_iff.1 this).1;rw [List.getElem?_set_self hl,this];rfl
  ·rw [List.getElem?_set_ne hij]
 fK:=by
  intro u hu;rcases List.mem_or_eq_of_mem_set hu with h1 | h1
  ·exact o.fK u h1
  ·rw [Option.some.inj h1];exact ht
 ids:=o.ids
 turns:=by
  intro j hj;by_cases hij:i=j
  ·subst hij
   have hl:i < g.slots.length:=(List.getElem?_eq_some_iff.1 hs).1;rw [show ((g.dT i t).cV i t.aN).slots=g.slots.set i (some t) from rfl,List.getElem?_set_self hl] at hj;simp at hj
  ·exact o.turns j (by rw [show ((g.dT i t).cV i t.aN).slots=g.slots.set i (some t) from rfl,List.getElem?_set_ne hij] at hj;exact hj)
 turnsOnce:=o.turnsOnce
 turnsLive:=by
  intro j u hj;by_cases hij:i=j
  ·subst hij;exact o.turnsLive i s hs
  ·exact o.turnsLive j u (by rw [show ((g.dT i t).cV i t.aN).slots=g.slots.set i (some t) from rfl,List.getElem?_set_ne hij] at hj;exact hj)
 few:=o.few
 many:=o.many
 cap:=o.cap
theorem Ga.Ok.vB {T:Esc.bI} {N:Nat} {g:Ga} (o:g.Ok T N) (es:Timer.Ents) (h:es.map Prod.fst=g.es.map Prod.fst):({ g with es:=es }:Ga).Ok T N :=
 ⟨o.pos,o.len,fun i s hs=>by show i ∈ es.map Prod.fst;rw [h];exact o.timed i s hs,fun i hs=>by show i ∉ es.map Prod.fst;rw [h];exact o.untimed i hs,by show (es.map Prod.fst).Nodup;rw [h];exact o.once,o.has,o.opn,o.fK,o.ids,o.turns,o.turnsOnce,o.turnsLive,o.few,o.many,o.cap⟩
structure Ga.aF1 (g g':Ga):Prop where
 n:g'.n=g.n
 ids:g'.ids=g.ids
 many:g'.many=g.many
 turns:g'.turns=g.turns
 rest:g'.pu.rest=g.pu.rest
 now:g'.now=g.now
theorem vT (s:Se) (b:List UInt8) (room:Int):(s.feed b room).aN=s.aN + s.dS b room:=by
 have h1:=(Ses.nS s b room).2.1;unfold Ses.St.aN Ses.St.feed;simp only [List.length_append,List.length_take];omega
theorem aBr (c t L:Nat) (h:t <= 700 - c + L):Purse.over (c + t) <= L + Purse.over c:=by
 unfold Purse.over;omega
theorem fZ {T:Esc.bI} {N:Nat} {g:Ga} (o:g.Ok T N) (i:Nat) (s:Se) (hs:g.slots[i]? = some (some s)):g.pu.has.getD i 0=s.aN:=by
 rw [List.getD_eq_getElem?_getD,o.lS i s hs];rfl
section
variable {T:Esc.bI} {N:Nat} {l:Lay} {g:Ga} {w:World}
theorem bU (l:Lay) (g:Ga):(l.heap g).Perm ((l.row g :: l.ht) ++ (l.lU :: l.lX g :: (l.dQ g ++ (l.hw ++ l.hs)))):=by
 refine Own.aE _ _ fun x=>?_
 unfold Lay.heap;simp only [List.count_append,List.count_cons];omega
theorem sF (k : l.Good g) (o : g.Ok T N) (h : Own.Has w (l.heap g)) (id : Int) (b : ByteArray) (hb : b.size ≤ 1000) (i : Nat) (hf : g.find id = some i) (s : Se) (hs : g.slots[i]? = some (some s)) :
  Calls Tryz.prog 10 #[.pointer (some ⟨l.gb,0,none⟩),.int .i64 id,.string b] w fun e w'=>e = .returned (.int .i64 ((s.dS b.data.toList ((700 - s.aN + g.pu.left:Nat):Int):Nat):Int)) /\
   ∃ l' g',Lay.Good l' g' /\ g'.Ok T N /\ g'.slots=g.slots.set i (some (s.feed b.data.toList ((700 - s.aN + g.pu.left:Nat):Int))) /\ g.aF1 g' /\ l'.gb=l.gb /\ Own.aA (l.heap g) (l'.heap g') w w':=by
 obtain ⟨R,hR⟩:∃ R,R=700 - s.aN + g.pu.left:=⟨_,rfl⟩;rw [<- hR];have c3:=cell h 3 _ rfl;have HO:=hhh (pG k h id o.pos);rw [hf] at HO;have hil:i < g.n:=by rw [<- k.len];exact (List.getElem?_eq_some_iff.1 hs).1
 have ha:=o.lS i s hs;have hip:i < g.pu.has.length:=(List.getElem?_eq_some_iff.1 ha).1;have ho:=o.iB i s hs;have ho2:=ho;rw [List.getElem?_eq_getElem (k.pu.same ▸ hip)] at ho;obtain ⟨bb,h1,h0,h2,hv,a2,a3,a4,a5⟩:=k.slots.dX i s hs;have hsm:=o.fK s (List.mem_of_getElem? hs);have hsmall:R <= 41000:=by have:=k.pu.small;unfold Purse.St.left at hR;omega
 have HL:=hhh (Purse.aEa (dQ h) k.pu i hip (Option.some.inj ho));have hRR:700 - g.pu.has[i]'hip + g.pu.left=R:=by
  rw [List.getElem?_eq_getElem hip] at ha;rw [Option.some.inj ha,hR]
 rw [hRR] at HL;have HF:=hhh (fun W (hW:Own.Has W h0)=>Ses.aFl a3 hW b (by omega) (R:Int));have H0:=hhh (fK h h1 h0 h2 a2);have HV:=hhh hv;obtain ⟨s',hs'⟩:∃ s',s'=s.feed b.data.toList (R:Int):=⟨_,rfl⟩;have hs'm:s'.Good T N:=by rw [hs'];exact hsm.feed _ _
 have hfit:Purse.over s'.aN <= g.pu.left + Purse.over (g.pu.has.getD i 0):=by
  rw [fZ o i s hs,hs',vT];refine aBr _ _ _ ?_;have h9:=(Ses.nS s b.data.toList (R:Int)).2.2;rw [Int.toNat_natCast] at h9;omega
 have HH:=hhh h;have hcap:=o.cap
 have HC:=hhh (fun (h0':Own.Heap) (is':Ses.Is s' bb h0') W (hW:Own.Has W (({ l with hs:=h1 ++ (h0' ++ h2) }:Lay).heap (g.dT i s'))) =>
  cF (k.dT i s' _ (a4 s' h0' is')) hW i s' (by show (g.slots.set i (some s'))[i]? = _;rw [List.getElem?_set_self (by rw [k.len];exact hil)]) ho2 hs'm hcap hfit)
 have HK:=hhh (o.dT i s s' hs hs'm);obtain ⟨A,c,r,B,he,hA⟩:=iT g.es i (o.timed i s hs);rw [<- hs'] at HF |-;obtain ⟨X,hX⟩:∃ T,T=s.dS b.data.toList (R:Int):=⟨_,rfl⟩;rw [<- hX] at HF |-;have HA:=hhh (And.intro a2 (And.intro hil (And.intro he hA)));have Hid:=hhh (And.intro trivial (And.intro hb k));clear k h hb ho ho2 hsm hsmall hRR hR hs' hs'm hv ha a2 a3 a4 a5 hX he hA hip hf hs o hil hfit hcap;go_enter Tryz.func10,Tryz.ntmps10;go_wp2_with (fail);refine HO.o.mono ?_;rintro e W1 ⟨rfl,rfl⟩;simp only [mR,HV.o];go_wp2_with (fail);refine HL.o.mono ?_;rintro e W1 ⟨rfl,n1,rfl⟩;go_wp2_with (fail);refine (HF.o _ (H0.o.drewN n1)).mono ?_;rintro e W2 ⟨rfl,h0',is',ht⟩;have t1:Own.aA (l.heap g) (({ l with hs:=h1 ++ (h0' ++ h2) }:Lay).heap (g.dT i s')) (World.drewN _ n1) W2 :=
  Own.aA.focus (HH.o.drewN n1) (dV l g h1 h0 h2 HA.o.1) (fun _=>ht) (dV _ _ h1 h0' h2 rfl)
 go_wp2_with (fail);refine (HC.o h0' is' W2 t1.has).mono ?_;rintro e W3 ⟨⟨v3,rfl⟩,k3,t3⟩;by_cases hT0:X=0
 ·have hT1:(X:Int)=0:=by omega
  have hlt:¬ (0:Int) < (X:Int):=by omega
  clear hT0;go_wp2;go_ret;refine ⟨by first | rfl | (rw [hT1];rfl) | exact Own.dC (by omega),_,_,k3,HK.o,rfl,⟨rfl,rfl,rfl,rfl,rfl,rfl⟩,rfl,?_⟩;exact (((Own.aA.refl HH.o).drewN n1).trans t1).trans t3
 ·have hlt:(0:Int) < (X:Int):=by omega
  clear hT0;have hk4:=(t3.has.perm (bU _ _)).left;have HT4:=hhh (Timer.rT (es:=g.es) A B c r i HA.o.2.2.1 HA.o.2.2.2 (by have:=Hid.o.2.2.small;have:=HA.o.2.1;omega) hk4 k3.timer 5 rfl);go_wp2_with (fail);refine HT4.o.mono ?_;rintro e W4 ⟨rfl,ht4,m4,t4⟩;go_wp2;go_ret;refine ⟨rfl,{ l with hs:=h1 ++ (h0' ++ h2),ht:=ht4 },{ (g.dT i s').cV i s'.aN with es:=A ++ (i,c,{ r with active:=(g.now:Int) }) :: B },⟨k3.len,k3.ids,k3.pun,k3.pu,k3.wheel,m4,k3.slots⟩,HK.o.vB _ ?_,rfl,⟨rfl,rfl,rfl,rfl,rfl,rfl⟩,rfl,?_⟩
  ·show _=g.es.map Prod.fst
   rw [HA.o.2.2.1];simp
  ·exact ((((Own.aA.refl HH.o).drewN n1).trans t1).trans t3).trans (Own.aA.focus t3.has (bU _ _) (fun _=>t4) (bU _ _))
end
end Gate
end
section
open Go.RowKit
namespace Gate
open Purse (ints)
def Ga.cU (g:Ga):Nat -> List Nat
 | 0=>[]
 | j + 1=>g.cU j ++ (match g.slots[j]? with | some (some _)=>[g.ids.getD j 0] | _=>[])
def Ga.live (g:Ga):List Nat:=g.cU g.n
theorem aCm (g:Ga) (j:Nat):(g.cU j).length <= j:=by
 induction j with
 | zero=>exact Nat.le_refl _
 | succ j ih =>
  unfold Ga.cU;rw [List.length_append];split <;> simp <;> omega
section
variable {l:Lay} {g:Ga} {w:World}
theorem vJ (k : l.Good g) (h : Own.Has w (l.heap g)) : Calls Tryz.prog 17 #[.pointer (some ⟨l.gb, 0, none⟩)] w fun e w' => ∃ ad c ho, e = .returned (.slice ad g.live.length c) ∧
  Own.Slc 3 (ints g.live) (.slice ad g.live.length c) ho /\ Own.aA (l.heap g) (ho ++ l.heap g) w w':=by
 have c0:=cell h 0 _ rfl;have c1:=cell h 1 _ rfl;have h8:=k.small;obtain ⟨i0,hi,hz0,hz1,hz2⟩:=info_parts (P:=Tryz.prog) (e:=3) (z:=.int .i64 0) (size:=1) (bytes:=8) (by kernel_rfl);have Hi:=hhh (And.intro hi (And.intro hz0 (And.intro hz1 hz2)));have HH:=hhh h;have K:=hhh k;have Hlv:=hhh (show g.live=g.cU g.n from rfl);clear hi hz0 hz1 hz2 k;go_enter Tryz.func17,Tryz.ntmps17;go_wp2;go_loopw [3,13] (fun o i wr=>∃ (j m:Nat) (ad:Option Addr) (c:Nat) (ho:Own.Heap),o = .slice ad m c /\ i = .int .i64 j /\ j <= g.n /\ m=(g.cU j).length /\ Own.Slc 3 (ints (g.cU j)) (.slice ad m c) ho /\ Own.aA (l.heap g) (ho ++ l.heap g) w wr) (fun _ i _=>g.n - (intOf i).toNat)
 case atStart=>exact ⟨0,0,none,0,[],rfl,rfl,by omega,rfl,Own.Slc.bare none rfl,Own.aA.refl HH.o⟩
 case round =>
  obtain ⟨j,m,ad,c,ho,rfl,rfl,hj,hm,hs,ht⟩:=hrel;have HM:=hhh hm;have HSl:=hhh hs;have HT:=hhh ht;have hR:=ht.has.right;clear hm hs;by_cases hjn:j < g.n
  ·have hjv:j < l.vs.length:=by rw [K.o.uR];exact hjn
   have hji:j < g.ids.length:=by rw [K.o.ids];exact hjn
   have hjs:j < g.slots.length:=by rw [K.o.len];exact hjn
   have hI:(j:Int) < (g.n:Int):=by omega
   have d0:=cell hR 0 _ rfl;have d1:=cell hR 1 _ rfl;have cs:=jS hR j _ (List.getElem?_eq_getElem hjv);have ci:=nK hR j hji;have hml:m <= 8:=by have:=HM.o;have:=aCm g j;omega
   cases hs:g.slots[j]'hjs with
   | none =>
    have hs':g.slots[j]? = some none:=by rw [List.getElem?_eq_getElem hjs,hs]
    obtain ⟨hv,_⟩:=K.o.slots.lI j hs';rw [List.getElem?_eq_getElem hjv] at hv;rw [Option.some.inj hv] at cs;have HL:=hhh (show g.cU (j + 1)=g.cU j by rw [Ga.cU,hs'];simp);clear hs hs' hv hR ht;go_wp2;go_roundw
    case rel=>exact ⟨j + 1,m,ad,c,ho,rfl,by go_num,by omega,by rw [HL.o];exact HM.o,by rw [HL.o];exact HSl.o,HT.o⟩
    case measure=>simp [intOf];omega
   | some s =>
    have hs':g.slots[j]? = some (some s):=by rw [List.getElem?_eq_getElem hjs,hs]
    obtain ⟨b,_,_,_,hv,_⟩:=K.o.slots.dX j s hs';rw [List.getElem?_eq_getElem hjv] at hv;rw [Option.some.inj hv] at cs;have HL:=hhh (show g.cU (j + 1)=g.cU j ++ [g.ids[j]'hji] by rw [Ga.cU,hs'];simp [List.getD_eq_getElem?_getD,hji]);obtain ⟨y,hy⟩:∃ y,y=g.ids[j]'hji:=⟨_,rfl⟩;rw [<- hy] at ci HL;clear hs hs' hv hR ht hy;go_wp2_with (at_builtin;go_loud (refine Own.bB rfl _ _ 23 rfl 3 i0 (.int .i64 0) 8 Tryz.underlying23 Hi.o.1 Hi.o.2.1 Hi.o.2.2.1 Hi.o.2.2.2 rfl (.slice ad m c) (ints (g.cU j)) m ((List.length_map ..).trans HM.o.symm) ho (l.heap g) rfl HSl.o HT.o.has (.int .i64 (y:Int)) rfl rfl ?c1 ?c2 ?_))
    case c1=>simp only [maxLen];omega
    case c2=>omega
    intro ad' c' h' w1 hs' ht';go_wp2;go_roundw
    case rel =>
     refine ⟨j + 1,m + 1,ad',c',h',rfl,by go_num,by omega,by rw [HL.o,List.length_append,HM.o];rfl,?_,HT.o.trans ht'⟩;rw [HL.o,show ints (g.cU j ++ [y])=ints (g.cU j) ++ [.int .i64 (y:Int)] by simp [ints]];exact hs'
    case measure=>simp [intOf];omega
  ·have hI:(g.n:Int) <= (j:Int):=by omega
   have HJ:=hhh (show j=g.n by omega);clear hR ht;go_wp2;go_ret;have e1:g.cU j=g.live:=by rw [HJ.o];exact Hlv.o.symm
   have e2:m=g.live.length:=by rw [HM.o,e1]
   have e3:=HSl.o;rw [e1,e2] at e3
   first
   | exact ⟨ad,c,ho,by rw [e2];rfl,e3,HT.o⟩
   | trace_state
end
theorem sG {e : TypeId} {xs : List Value} {v : Value} {h : Own.Heap} (s : Own.Slc e xs v h) (h0 : 0 < xs.length) : ∃ b o c, v = .slice (some ⟨b, o, none⟩) xs.length c ∧
  ∀ w,Own.Has w h -> ∀ i (hi:i < xs.length),w.cell? ⟨b,o + i,none⟩=some (xs[i]'hi):=by
 cases s with
 | bare a hx=>subst hx;simp at h0
 | row b pre spare hm =>
  refine ⟨b,pre.length,_,rfl,fun w hw i hi=>hw.cell b e _ (List.mem_singleton.2 rfl) (pre.length + i) _ ?_⟩;rw [List.getElem?_append_right (by omega),Nat.add_sub_cancel_left,List.getElem?_append_left hi,List.getElem?_eq_getElem hi]
theorem aEb {xs ys : List Nat} {vx vy : Value} {hx hy : Own.Heap} (sx : Own.Slc 3 (ints xs) vx hx) (sy : Own.Slc 3 (ints ys) vy hy) {w : World} (hwx : Own.Has w hx) (hwy : Own.Has w hy) (h1 : xs.length ≤ 1000) :
  Calls Tryz.prog 26 #[vx,vy] w fun e w'=>e = .returned (.bool (decide (xs=ys))) /\ ∃ n,w'=w.drewN n:=by
 have lx:(ints xs).length=xs.length:=List.length_map ..;have ly:(ints ys).length=ys.length:=List.length_map ..;by_cases hl:xs.length=ys.length
 ·rcases Nat.eq_zero_or_pos xs.length with h0 | h0
  ·obtain rfl:xs=[]:=List.eq_nil_of_length_eq_zero h0
   obtain rfl:ys=[]:=List.eq_nil_of_length_eq_zero (by omega);obtain ⟨ax,kx,rfl⟩:=sx.len;obtain ⟨ay,ky,rfl⟩:=sy.len;clear lx ly hl h0 sx sy hwx hwy h1;go_enter Tryz.func26,Tryz.ntmps26;go_wp2;refine wp_loop_rounds 1 ?_;rw [rounds_succ];go_wp2;go_ret;exact ⟨rfl,0,rfl⟩
  ·obtain ⟨bx,ox,kx,rfl,fx⟩:=sG sx (by omega)
   obtain ⟨by_,oy,ky,rfl,fy⟩:=sG sy (by omega);rw [lx,ly,<- hl];have Fx:=hhh (fun i (hi:i < xs.length)=>show w.cell? ⟨bx,ox + i,none⟩=some (.int .i64 ((xs[i]'hi:Nat):Int)) by rw [fx _ hwx i (by omega)];simp [ints]);have Fy:=hhh (fun i (hi:i < ys.length)=>show w.cell? ⟨by_,oy + i,none⟩=some (.int .i64 ((ys[i]'hi:Nat):Int)) by rw [fy _ hwy i (by omega)];simp [ints]);have HL:=hhh hl;clear fx fy sx sy hwx hwy lx ly hl h0;go_enter Tryz.func26,Tryz.ntmps26;go_wp2;go_loopw [5] (fun i wr=>∃ (j n:Nat),i = .int .i64 j /\ j <= xs.length /\ (∀ k,k < j -> xs[k]? = ys[k]?) /\ wr=w.drewN n) (fun i _=>xs.length - (intOf i).toNat)
   case atStart=>exact ⟨0,0,rfl,by omega,by intro k hk;omega,rfl⟩
   case round =>
    obtain ⟨j,n,rfl,hj,hq,rfl⟩:=hrel;have HQ:=hhh hq;clear hq;by_cases hjl:j < xs.length
    ·have hjy:j < ys.length:=by have:=HL.o;omega
     have cx:=Fx.o j hjl;have cy:=Fy.o j hjy;have hI:(j:Int) < (xs.length:Int):=by omega
     obtain ⟨x,hx'⟩:∃ x,x=xs[j]'hjl:=⟨_,rfl⟩;obtain ⟨y,hy'⟩:∃ y,y=ys[j]'hjy:=⟨_,rfl⟩;rw [<- hx'] at cx;rw [<- hy'] at cy;have HX:=hhh (show xs[j]? = some x by rw [List.getElem?_eq_getElem hjl,hx']);have HY:=hhh (show ys[j]? = some y by rw [List.getElem?_eq_getElem hjy,hy']);clear hx' hy' hjy;by_cases hxy:x=y
     ·have ht:((x:Int) == (y:Int))=true:=by rw [hxy];simp
      have E:=hhh hxy;clear hxy;go_wp2;go_quiet (fail);go_wp2;go_roundw
      case rel =>
       refine ⟨j + 1,_,by go_num,by omega,?_,rfl⟩;intro k hk;rcases Nat.lt_or_ge k j with h2 | h2
       ·exact HQ.o k h2
       ·have h3:k=j:=by omega
        rw [h3,HX.o,HY.o,E.o]
      case measure=>simp [intOf];omega
     ·have ht:((x:Int) == (y:Int))=false:=by rw [beq_eq_false_iff_ne];omega
      have E:=hhh hxy;clear hxy;go_wp2;go_quiet (fail);go_wp2;go_ret;refine ⟨Own.dO ?_,n + nq,by rw [World.drewN_drewN]⟩;rw [decide_eq_false];intro e;have h2:=HX.o;rw [e,HY.o] at h2;exact E.o (Option.some.inj h2).symm
    ·have hI:(xs.length:Int) <= (j:Int):=by omega
     have HJ:=hhh (show xs.length <= j by omega);go_wp2;go_ret;refine ⟨Own.dO ?_,_,rfl⟩;rw [decide_eq_true];apply List.ext_getElem?;intro k;rcases Nat.lt_or_ge k j with h2 | h2
     ·exact HQ.o k h2
     ·rw [List.getElem?_eq_none (by have:=HJ.o;omega),List.getElem?_eq_none (by have:=HJ.o;have:=HL.o;omega)]
 ·obtain ⟨ax,kx,rfl⟩:=sx.len
  obtain ⟨ay,ky,rfl⟩:=sy.len;rw [lx,ly];have ht:((xs.length:Int) == (ys.length:Int))=false:=by rw [beq_eq_false_iff_ne];omega
  have E:=hhh (show xs ≠ ys by rintro rfl;exact hl rfl);clear lx ly hl sx sy hwx hwy h1;go_enter Tryz.func26,Tryz.ntmps26;go_wp2;go_ret;exact ⟨Own.dO (by rw [decide_eq_false E.o]),0,rfl⟩
end Gate
end
section
open Go.RowKit
namespace Gate
open Purse (ints)
theorem fH (w:World):Calls Tryz.prog 34 #[] w fun e w'=>e = .returned (.string ⟨#[70]⟩) /\ w'=w:=by
 go_enter Tryz.func34,Tryz.ntmps34;go_wp2;go_ret;exact ⟨rfl,rfl⟩
def Ga.cH (g:Ga) (i c:Nat):Ga :=
 { n:=g.n,slots:=g.slots.set i (some Ses.St.new),ids:=g.ids.set i (i + g.n * g.many),many:=g.many + 1,pu:=(g.pu.jO i true).put i 2,turns:=g.turns ++ [i],es:=g.es ++ [(i,c,⟨0,(g.now:Int),(g.now:Int)⟩)],now:=g.now }
theorem zH (ss:List (Option Se)) (i:Nat) (s:Se):(ss.set i (some s)).map Option.isSome=(ss.map Option.isSome).set i true:=by rw [List.map_set];rfl
theorem Ga.Ok.cH {T:Esc.bI} {N:Nat} {g:Ga} (o:g.Ok T N) (i c:Nat) (hi:g.slots[i]? = some none) (hm:g.many <= 800) (hf:g.turns.length <= 400) (h8:g.n <= 8):(g.cH i c).Ok T N where
 pos:=o.pos
 len:=(List.length_set ..).trans o.len
 timed:=by
  intro j u hj;show j ∈ (g.es ++ [(i,c,(⟨0,(g.now:Int),(g.now:Int)⟩:Timer.Rec))]).map Prod.fst;rw [List.map_append,List.mem_append];by_cases hij:i=j
  ·subst hij;exact .inr (by simp)
  ·exact .inl (o.timed j u (by rw [show (g.cH i c).slots=g.slots.set i (some Ses.St.new) from rfl,List.getElem?_set_ne hij] at hj;exact hj))
 untimed:=by
  intro j hj;have hl:i < g.slots.length:=(List.getElem?_eq_some_iff.1 hi).1;by_cases hij:i=j
  ·subst hij
   rw [show (g.cH i c).slots=g.slots.set i (some Ses.St.new) from rfl,List.getElem?_set_self hl] at hj;simp at hj
  ·show j ∉ (g.es ++ [(i,c,(⟨0,(g.now:Int),(g.now:Int)⟩:Timer.Rec))]).map Prod.fst
   rw [List.map_append,List.mem_append];have h1:=o.untimed j (by rw [show (g.cH i c).slots=g.slots.set i (some Ses.St.new) from rfl,List.getElem?_set_ne hij] at hj;exact hj);rintro (h2 | h2)
   ·exact h1 h2
   ·simp at h2;exact hij h2.symm
 once:=by
  show ((g.es ++ [(i,c,(⟨0,(g.now:Int),(g.now:Int)⟩:Timer.Rec))]).map Prod.fst).Nodup;rw [List.map_append];refine List.nodup_append.2 ⟨o.once,by simp,fun x hx y hy e=>?_⟩;simp at hy;subst hy;subst e;exact o.untimed _ hi hx
 has:=by
  show g.pu.has.set i 2=(g.slots.set i (some Ses.St.new)).map chargeO;rw [o.has,List.map_set];rfl
 opn:=by
  show g.pu.opn.set i true=(g.slots.set i (some Ses.St.new)).map Option.isSome;rw [zH,o.opn]
 fK:=by
  intro u hu;rcases List.mem_or_eq_of_mem_set hu with h1 | h1
  ·exact o.fK u h1
  ·rw [Option.some.inj h1];exact Ses.Good.new.mono (Nat.zero_le _)
 ids:=by
  intro x hx;rcases List.mem_or_eq_of_mem_set hx with h1 | h1
  ·exact o.ids x h1
  ·have hl:i < g.n:=by rw [<- o.len];exact (List.getElem?_eq_some_iff.1 hi).1
   rw [h1];have:g.n * g.many <= 8 * 800:=Nat.mul_le_mul h8 hm;omega
 turns:=by
  intro j hj;have hl:i < g.slots.length:=(List.getElem?_eq_some_iff.1 hi).1;by_cases hij:i=j
  ·subst hij
   rw [show (g.cH i c).slots=g.slots.set i (some Ses.St.new) from rfl,List.getElem?_set_self hl] at hj;simp at hj
  ·have h1:=o.turns j (by rw [show (g.cH i c).slots=g.slots.set i (some Ses.St.new) from rfl,List.getElem?_set_ne hij] at hj;exact hj)
   show j ∉ g.turns ++ [i];rw [List.mem_append];rintro (h2 | h2)
   ·exact h1 h2
   ·simp at h2;exact hij h2.symm
 turnsOnce:=by
  show (g.turns ++ [i]).Nodup;refine List.nodup_append.2 ⟨o.turnsOnce,by simp,fun x hx y hy e=>?_⟩;simp at hy;subst hy;subst e;exact o.turns _ hi hx
 turnsLive:=by
  intro j u hj;show j ∈ g.turns ++ [i];rw [List.mem_append];by_cases hij:i=j
  ·subst hij;exact .inr (by simp)
  ·exact .inl (o.turnsLive j u (by rw [show (g.cH i c).slots=g.slots.set i (some Ses.St.new) from rfl,List.getElem?_set_ne hij] at hj;exact hj))
 few:=by show (g.turns ++ [i]).length <= 500;rw [List.length_append];simp;omega
 many:=by show g.many + 1 <= 900;omega
 cap:=o.cap
def Lay.new (l:Lay) (j:Nat) (x:Value) (hs:Own.Heap):Lay:={ l with vs:=l.vs.set j x,hs:=hs }
def Ga.g3 (g:Ga) (j:Nat):Ga:={ g with slots:=g.slots.set j (some Ses.St.new),ids:=g.ids.set j (j + g.n * g.many),many:=g.many + 1 }
def Ga.g4 (g:Ga) (j:Nat):Ga:={ g.g3 j with pu:=g.pu.jO j true }
def Ga.g6 (g:Ga) (j:Nat):Ga:={ (g.g4 j).cV j 2 with turns:=g.turns ++ [j] }
section
variable {T:Esc.bI} {N:Nat} {l:Lay} {g:Ga} {w:World}
theorem eU (l:Lay) (g:Ga):(l.heap g).Perm (l.hw ++ (l.row g :: l.lU :: l.lX g :: (l.dQ g ++ (l.ht ++ l.hs)))):=by
 refine Own.aE _ _ fun x=>?_
 unfold Lay.heap;simp only [List.count_append,List.count_cons];omega
theorem _root_.Go.Proofs.YtfheacchdfdeiaaGreat.Timer.Map.mono {n m:Nat} {es:Timer.Ents} {v:Value} {h:Own.Heap} (k:Timer.Map n es v h) (hm:n <= m):Timer.Map m es v h:=by
 cases k with
 | none h0=>exact .none h0
 | some b o ho=>exact .some b o (ho.mono hm)
theorem aD1 {a h0 h1 h2 : Own.Heap} {u v : World} (t : Own.aA a (h0 ++ l.heap g) u v) (hs : l.hs = h1 ++ h2) (j : Nat) (x : Value) (hj : j < l.vs.length) (S : List (Option Se)) :
  Own.aA a (({ l with vs:=l.vs.set j x,hs:=h1 ++ (h0 ++ h2) }:Lay).heap { g with slots:=S }) u (v.setCell ⟨l.sb,j,none⟩ x):=by
 have p1:(h0 ++ l.heap g).Perm (l.lU :: (l.row g :: l.lX g :: (l.dQ g ++ (l.hw ++ (l.ht ++ (h1 ++ (h0 ++ h2))))))):=by
  refine Own.aE _ _ fun x=>?_
  unfold Lay.heap;rw [hs];simp only [List.count_append,List.count_cons];omega
 have t1:=(t.perm (List.Perm.refl _) p1).set j x hj;refine t1.perm (List.Perm.refl _) ?_;exact List.Perm.swap _ _ _
theorem aD2 {a : Own.Heap} {u v : World} (t : Own.aA a (l.heap g) u v) (j x : Nat) (y : Int) (hy : y = (x : Int)) (hj : j < g.ids.length) :
  Own.aA a (l.heap { g with ids:=g.ids.set j x }) u (v.setCell ⟨l.ib,j,none⟩ (.int .i64 y)):=by
 subst hy;have t1:=Own.aA.setAt (A:=[_,_]) t j (.int .i64 (x:Int)) (by simpa [ints] using hj);rw [Purse.ints_set] at t1;exact t1
theorem aDm {a : Own.Heap} {u v : World} (t : Own.aA a (l.heap g) u v) (x : Int) (hx : x = (g.many : Int) + 1) :
  Own.aA a (l.heap { g with many:=g.many + 1 }) u (v.setCell ⟨l.gb,2,none⟩ (.int .i64 x)):=by
 subst hx;have t1:=Own.aA.set t 2 (.int .i64 ((g.many:Int) + 1)) (by simp [front]);exact t1
theorem jC (k : l.Good g) (o : g.Ok T N) (h : Own.Has w (l.heap g)) (i : Nat) (hi : g.slots[i]? = some none) (hfirst : ∀ j, j < i → g.slots[j]? ≠ some none) (hm : g.many ≤ 800) (hf : g.turns.length ≤ 400) :
  Calls Tryz.prog 9 #[.pointer (some ⟨l.gb,0,none⟩)] w fun e w'=>e = .returned (.tuple #[.int .i64 ((i + g.n * g.many:Nat):Int),.string ⟨#[]⟩]) /\
   ∃ l' c,Lay.Good l' (g.cH i c) /\ (g.cH i c).Ok T N /\ l'.gb=l.gb /\ Own.aA (l.heap g) (l'.heap (g.cH i c)) w w':=by
 have c0:=cell h 0 _ rfl;have h8:=k.small;have hil:i < g.n:=by rw [<- k.len];exact (List.getElem?_eq_some_iff.1 hi).1
 have HH:=hhh h;have K:=hhh (And.intro k (And.intro o (And.intro hi (And.intro hfirst (And.intro hm hf)))));clear k o hi hfirst hm hf;go_enter Tryz.func9,Tryz.ntmps9;go_wp2;go_loopw [13] (fun x wr=>∃ (j:Nat),x = .int .i64 j /\ j <= i /\ wr=w) (fun x _=>i + 1 - (intOf x).toNat)
 case atStart=>exact ⟨0,rfl,by omega,rfl⟩
 case round =>
  obtain ⟨j,rfl,hj,rfl⟩:=hrel;have hjn:j < g.n:=by omega
  have hI:(j:Int) < (g.n:Int):=by omega
  have hjv:j < l.vs.length:=by rw [K.o.1.uR];exact hjn
  have hjs:j < g.slots.length:=by rw [K.o.1.len];exact hjn
  have cs:=jS h j _ (List.getElem?_eq_getElem hjv);by_cases hji:j=i
  ·subst hji
   obtain ⟨hv,h1,h2,a1,a2⟩:=K.o.1.slots.lI j K.o.2.2.1;rw [List.getElem?_eq_getElem hjv] at hv;rw [Option.some.inj hv] at cs;have fs:=aE1 h j;have A:=hhh (And.intro a1 a2);have hM:g.n * g.many <= 6400:=Nat.mul_le_mul h8 K.o.2.2.2.2.1;have hMI:(g.n:Int) * (g.many:Int)=((g.n * g.many:Nat):Int):=by rw [Int.natCast_mul]
   have hji:j < g.ids.length:=by rw [K.o.1.ids];exact hjn
   have HG:=hhh (And.intro hM (And.intro hMI (And.intro hji (And.intro hjv (And.intro hjn h8)))));clear a1 a2 hv hj h8 hM hMI hji hjv hjn hjs hil;go_wp2;go_region_with (refine (Ses.eC _).mono ?_;rintro e W1 ⟨sk,h0,rfl,is0,ht⟩;have t0:=((Own.aA.refl HH.o).drew).trans (ht.frame HH.o.drew);have hw1:=t0.has.right;have d0:=cell hw1 0 _ rfl;have ds:=jS hw1 j _ (List.getElem?_eq_getElem HG.o.2.2.2.1);have dfs:=aE1 hw1 j;have IS:=hhh is0;have T0:=hhh t0;clear is0 t0 ht hw1)
   all_goals
    have T1:=aD1 T0.o A.o.1 j (.pointer (some ⟨sk,0,none⟩)) HG.o.2.2.2.1 (g.slots.set j (some Ses.St.new));have S1:=hhh (A.o.2 Ses.St.new sk h0 IS.o);generalize (World.setCell W1 ⟨l.sb,j,none⟩ (.pointer (some ⟨sk,0,none⟩)))=W2 at T1 |-;clear T0 d0 ds dfs cs fs c0 h IS A;have e0:W2.cell? ⟨l.gb,0,none⟩=some (.slice (some ⟨l.sb,0,none⟩) g.n g.n):=cell T1.has 0 _ rfl;have e1:W2.cell? ⟨l.gb,1,none⟩=some (.slice (some ⟨l.ib,0,none⟩) g.n g.n):=cell T1.has 1 _ rfl;have e2:W2.cell? ⟨l.gb,2,none⟩=some (.int .i64 (g.many:Int)):=cell T1.has 2 _ rfl;have e3:W2.cell? ⟨l.gb,3,none⟩=some (.pointer (some ⟨l.pb,0,none⟩)):=cell T1.has 3 _ rfl;have f2:W2.frozen? ⟨l.gb,2,none⟩=false:=free T1.has 2;have ei:W2.cell? ⟨l.ib,j,none⟩=some (.int .i64 ((g.ids[j]'HG.o.2.2.1:Nat):Int)):=nK T1.has j HG.o.2.2.1;have fi:W2.frozen? ⟨l.ib,j,none⟩=false:=aI4 T1.has j;have hne:¬ l.gb=l.ib:=by
     have h9:=(List.nodup_cons.1 T1.has.once).1;intro e;exact h9 (e ▸ mcm _ mcs)
    have hne':¬ l.ib=l.gb:=fun e=>hne e.symm
    have TT1:=hhh T1;clear T1;obtain ⟨M,hM⟩:∃ M,M=g.n * g.many:=⟨_,rfl⟩;have HM:=hhh hM;have hM6:M <= 6400:=by rw [hM];exact HG.o.1
    have hj8:j <= 8:=by have:=HG.o;omega
    have hw1:IntKind.i64.wrap ((g.n:Int) * (g.many:Int))=(M:Int):=by rw [HG.o.2.1,<- hM,IntKind.wrap_i64];omega
    have hw2:IntKind.i64.wrap ((j:Int) + (M:Int))=((j + M:Nat):Int):=by rw [IntKind.wrap_i64];omega
    have hmany:g.many <= 800:=K.o.2.2.2.2.1;clear hM;go_wp2;go_still_tail 18,(by kernel_rfl);go_wp2_with (fail);have T3:=(aDm (aD2 TT1.o j (j + M) ((j:Int) + (M:Int)) (by omega) HG.o.2.2.1) ((g.many:Int) + 1) rfl).drew;generalize (World.drew (World.setCell (World.setCell W2 ⟨l.ib,j,none⟩ (.int .i64 ((j:Int) + (M:Int)))) ⟨l.gb,2,none⟩ (.int .i64 ((g.many:Int) + 1))))=W3 at T3 |-;rw [HM.o] at T3;replace T3:Own.aA (l.heap g) ((l.new j (.pointer (some ⟨sk,0,none⟩)) (h1 ++ (h0 ++ h2))).heap (g.g3 j)) wr W3:=T3;clear e0 e1 e2 e3 f2 ei fi hne hne' hw1 hw2 TT1;have hjn:j < g.n:=HG.o.2.2.2.2.1;have ho2:=K.o.2.1.opn;have hop:g.pu.opn[j]'(by rw [<- K.o.1.pu.same,K.o.1.pun];exact hjn)=false:=by
     have h9:g.pu.opn[j]? = some false:=by rw [ho2,List.getElem?_map,K.o.2.2.1];rfl
     rw [List.getElem?_eq_getElem (by rw [<- K.o.1.pu.same,K.o.1.pun];exact hjn)] at h9;exact Option.some.inj h9
    have P4:=Purse.aFg (dQ T3.has) K.o.1.pu j _ hop;refine Calls.mono P4 ?_;rintro e W4 ⟨rfl,t4⟩;have T4:=T3.trans (Own.aA.focus T3.has (eH _ _) (fun _=>t4) (eH (l.new j (.pointer (some ⟨sk,0,none⟩)) (h1 ++ (h0 ++ h2))) (g.g4 j)));have G4:(l.new j (.pointer (some ⟨sk,0,none⟩)) (h1 ++ (h0 ++ h2))).Good (g.g4 j) :=
     ⟨(List.length_set ..).trans K.o.1.len,(List.length_set ..).trans K.o.1.ids,K.o.1.pun,K.o.1.pu.jO j true,K.o.1.wheel,K.o.1.timer.mono (by show g.many <= g.many + 1;omega),S1.o⟩
    clear P4 t4 T3 hop ho2 S1;have HC5:=hhh (cF G4 T4.has j Ses.St.new (by show (g.slots.set j (some Ses.St.new))[j]? = _;exact List.getElem?_set_self (by rw [K.o.1.len];exact hjn)) (by show (g.pu.opn.set j true)[j]? = _;exact List.getElem?_set_self (by rw [<- K.o.1.pu.same,K.o.1.pun];exact hjn)) (Ses.Good.new (T:=T)) (by omega) (Nat.zero_le _));have TT4:=hhh T4;clear T4 G4;go_wp2_with (fail);refine HC5.o.mono ?_;rintro e W5 ⟨⟨v5,rfl⟩,G5,t5⟩;have T5:=TT4.o.trans t5;have e4:W5.cell? ⟨l.gb,4,none⟩=some (.pointer (some ⟨l.wb,0,none⟩)):=cell T5.has 4 _ rfl;have HW6:=hhh (Wheel.fB K.o.1.wheel (T5.has.perm (eU _ _)).left (by have:=K.o.2.2.2.2.2;omega) j hjn (K.o.2.1.turns j K.o.2.2.1));have TT5:=hhh T5;have GG5:=hhh G5;clear T5 HC5 t5 G5 TT4;go_wp2_with (fail);refine HW6.o.mono ?_;rintro e W6 ⟨rfl,hw6,wi6,t6⟩;have T6:=TT5.o.trans (Own.aA.focus TT5.o.has (eU _ _) (fun _=>t6) (eU { l.new j (.pointer (some ⟨sk,0,none⟩)) (h1 ++ (h0 ++ h2)) with hw:=hw6 } (g.g6 j)));have HT7:=hhh (Timer.lP (T6.has.perm (bU _ _)).left K.o.1.timer 5 rfl j 0 (by omega) (by omega) (by omega) (fun e he hej=>K.o.2.1.untimed j K.o.2.2.1 (hej ▸ List.mem_map_of_mem he)));have TT6:=hhh T6;have WI6:=hhh wi6;clear HW6 e4 t6 T6 wi6;go_wp2_with (fail);refine HT7.o.mono ?_;rintro e W7 ⟨rfl,mv7,ht7,c7,m7,t7⟩;have T7:=TT6.o.trans (Own.aA.focus TT6.o.has (bU _ _) (fun _=>t7) (bU { l.new j (.pointer (some ⟨sk,0,none⟩)) (h1 ++ (h0 ++ h2)) with hw:=hw6,mv:=mv7,ht:=ht7 } (g.cH j c7)));have G7:({ l.new j (.pointer (some ⟨sk,0,none⟩)) (h1 ++ (h0 ++ h2)) with hw:=hw6,mv:=mv7,ht:=ht7 }:Lay).Good (g.cH j c7) :=
     ⟨GG5.o.len,GG5.o.ids,GG5.o.pun,GG5.o.pu,WI6.o,m7,GG5.o.slots⟩
    have e1:W7.cell? ⟨l.gb,1,none⟩=some (.slice (some ⟨l.ib,0,none⟩) g.n g.n):=cell T7.has 1 _ rfl;have hjI:j < (g.ids.set j (j + g.n * g.many)).length:=by rw [List.length_set];exact HG.o.2.2.1
    have ei:W7.cell? ⟨l.ib,j,none⟩=some (.int .i64 (((g.ids.set j (j + g.n * g.many))[j]'hjI:Nat):Int)):=nK T7.has j hjI;rw [List.getElem_set_self,<- HM.o] at ei;have TT7:=hhh T7;have GG7:=hhh G7;clear T7 G7 m7 t7 HT7;go_wp2;go_ret2;rw [HM.o];exact ⟨rfl,_,c7,GG7.o,K.o.2.1.cH j c7 K.o.2.2.1 K.o.2.2.2.2.1 K.o.2.2.2.2.2 HG.o.2.2.2.2.2,rfl,TT7.o⟩
  ·have hs':∃ s,g.slots[j]? = some (some s):=by
    cases hs:g.slots[j]'hjs with
    | none=>exact absurd (by rw [List.getElem?_eq_getElem hjs,hs]) (K.o.2.2.2.1 j (by omega))
    | some s=>exact ⟨s,by rw [List.getElem?_eq_getElem hjs,hs]⟩
   obtain ⟨s,hs'⟩:=hs';obtain ⟨b,_,_,_,hv,_⟩:=K.o.1.slots.dX j s hs';rw [List.getElem?_eq_getElem hjv] at hv;rw [Option.some.inj hv] at cs;clear hs' hv;go_wp2;go_roundw
   case rel=>exact ⟨j + 1,by go_num,by omega,trivial⟩
   case measure=>simp [intOf];omega
end
end Gate
end
section
open Go.RowKit
namespace Gate
open Purse (ints)
def Ga.new (B n:Nat):Ga:=⟨n,List.replicate n none,List.replicate n 0,0,⟨B - n * 700,List.replicate n 0,List.replicate n false⟩,[],[],0⟩
theorem aCy (n:Nat):dJ (List.replicate n none) (List.replicate n (.pointer none)) []:=by
 induction n with
 | zero=>exact .nil
 | succ n ih=>exact .free ih
theorem aBv (n:Nat):Purse.cR (List.replicate n 0)=0:=zD _ fun x hx=>by rw [(List.mem_replicate.1 hx).2];exact Nat.zero_le _
theorem Ga.Ok.new (T:Esc.bI) (N:Nat) (hN:N <= 2600) (B n:Nat) (h:0 < n):(Ga.new B n).Ok T N where
 pos:=h
 len:=List.length_replicate ..
 timed:=by
  intro i s hs;have:=List.mem_of_getElem? hs;have:=(List.mem_replicate.1 this).2;simp at this
 untimed:=by intro i _ hi;simp [Ga.new] at hi
 once:=List.nodup_nil
 has:=by simp [Ga.new,chargeO]
 opn:=by simp [Ga.new]
 fK:=by intro s hs;have:=(List.mem_replicate.1 hs).2;simp at this
 ids:=by intro x hx;rw [(List.mem_replicate.1 hx).2];omega
 turns:=by intro i _ hi;simp [Ga.new] at hi
 turnsOnce:=List.nodup_nil
 turnsLive:=by
  intro i s hs;have:=(List.mem_replicate.1 (List.mem_of_getElem? hs)).2;simp at this
 few:=Nat.zero_le _
 many:=Nat.zero_le _
 cap:=hN
theorem Good.new (l:Lay) (B n:Nat) (h8:n <= 8) (hB:B <= 40000) (hvs:l.vs=List.replicate n (.pointer none)) (hhs:l.hs=[]) (hmv:l.mv = .map none) (hht:l.ht=[]) (hw:Wheel.Is n [] l.wb l.hw):l.Good (Ga.new B n) where
 len:=List.length_replicate ..
 ids:=List.length_replicate ..
 pun:=List.length_replicate ..
 pu:=⟨by simp [Ga.new],by simpa [Ga.new] using h8,by show Purse.cR (List.replicate n 0) <= _;rw [aBv];exact Nat.zero_le _,by show B - n * 700 <= 40000;omega⟩
 wheel:=hw
 timer:=by rw [hmv,hht];exact .none rfl
 slots:=by rw [hvs,hhs];exact aCy n
theorem _root_.Go.Proofs.YtfheacchdfdeiaaGreat.Own.aA.plus {X Y:Own.Heap} {u v w:World} (t:Own.aA [] X u v) (s:Own.aA [] Y v w):Own.aA [] (Y ++ X) u w:=t.trans (s.frame (a:=[]) t.has)
theorem aEg (n:Nat):ints (List.replicate n 0)=List.replicate n (.int .i64 0):=by simp [ints]
theorem fE (l : Lay) (B n : Nat) (hvs : l.vs = List.replicate n (.pointer none)) (hhs : l.hs = []) (hmv : l.mv = .map none) (hht : l.ht = []) :
  l.heap (Ga.new B n)=(l.gb,.cells #[.slice (some ⟨l.sb,0,none⟩) n n,.slice (some ⟨l.ib,0,none⟩) n n,.int .i64 0,.pointer (some ⟨l.pb,0,none⟩),.pointer (some ⟨l.wb,0,none⟩),.int .i64 0,.map none] 68 (0,0)) ::
   (l.sb,.cells (madeCells #[.pointer none] n) 69 (0,0)) :: (l.ib,.cells (madeCells #[.int .i64 0] n) 3 (0,0)) ::
   (Purse.heap ⟨B - n * 700,List.replicate n 0,List.replicate n false⟩ l.pb l.hb l.ob ++ l.hw):=by
 unfold Lay.heap Lay.row Lay.lU Lay.lX Lay.dQ;rw [hvs,hhs,hmv,hht,Own.dG,Own.dG,List.append_nil,List.append_nil];show Timer.at_ _ _ _ _ _ _ :: _ :: Own.row _ _ (ints (List.replicate n 0)) :: _=_;rw [aEg];rfl
theorem eC (B n : Nat) (h1 : 1 ≤ n) (h8 : n ≤ 8) (hB : n * 700 ≤ B) (hB2 : B ≤ 40000) (w : World) :
  Calls Tryz.prog 8 #[.int .i64 (B:Int),.int .i64 (n:Int)] w fun e w'=>∃ l:Lay,e = .returned (.pointer (some ⟨l.gb,0,none⟩)) /\ l.Good (Ga.new B n) /\ Own.aA [] (l.heap (Ga.new B n)) w w':=by
 have hmk:=run_make_row' (P:=Tryz.prog) 61 69 (.pointer none) 8 Tryz.underlying61 (by kernel_rfl) rfl .i64 .i64 n (by omega) (by omega);have hmk2:=run_make_row' (P:=Tryz.prog) 23 3 (.int .i64 0) 8 Tryz.underlying23 (by kernel_rfl) rfl .i64 .i64 n (by omega) (by omega);have HP:=hhh (Purse.eC B n h1 h8 hB hB2 w);have HB:=hhh (And.intro h8 hB2);clear h1 h8 hB hB2;go_enter Tryz.func8,Tryz.ntmps8;go_wp2_with (fail);refine HP.o.mono ?_;rintro e W0 ⟨pb,hb,ob,rfl,tp⟩;have TP:=hhh tp;clear tp HP;go_wp2;go_region_with (refine (Wheel.eC n HB.o.1 _).mono ?_;rintro e W1 ⟨wb,hw,rfl,iw,tw⟩;have TW:=hhh tw;have IW:=hhh iw;clear tw iw)
 all_goals go_wp2
 all_goals go_ret
 ·refine ⟨⟨W1.heap.size,W0.heap.size,W0.heap.size + 1,pb,hb,ob,wb,.map none,List.replicate n (.pointer none),hw,[],[]⟩,rfl,Good.new _ B n HB.o.1 HB.o.2 rfl rfl rfl rfl IW.o,?_⟩
  rw [fE _ B n rfl rfl rfl rfl];refine (((((TP.o.aZ _ rfl _).aZ (W0.heap.size + 1) (by simp) _).drew.plus TW.o).aZ _ rfl _)).perm (List.Perm.refl _) (Own.aE _ _ fun x=>?_);simp only [List.count_append,List.count_cons];omega
 ·refine ⟨⟨W1.heap.size + 1,W0.heap.size,W1.heap.size,pb,hb,ob,wb,.map none,List.replicate n (.pointer none),hw,[],[]⟩,rfl,Good.new _ B n HB.o.1 HB.o.2 rfl rfl rfl rfl IW.o,?_⟩
  rw [fE _ B n rfl rfl rfl rfl];refine (((((TP.o.aZ _ rfl _)).drew.plus TW.o).aZ _ rfl _).aZ (W1.heap.size + 1) (by simp) _).perm (List.Perm.refl _) (Own.aE _ _ fun x=>?_);simp only [List.count_append,List.count_cons];omega
 ·refine ⟨⟨W1.heap.size,W0.heap.size + 1,W0.heap.size,pb,hb,ob,wb,.map none,List.replicate n (.pointer none),hw,[],[]⟩,rfl,Good.new _ B n HB.o.1 HB.o.2 rfl rfl rfl rfl IW.o,?_⟩
  rw [fE _ B n rfl rfl rfl rfl];refine (((((TP.o.aZ _ rfl _).aZ (W0.heap.size + 1) (by simp) _).drew.plus TW.o).aZ _ rfl _)).perm (List.Perm.refl _) (Own.aE _ _ fun x=>?_);simp only [List.count_append,List.count_cons];omega
 ·refine ⟨⟨W1.heap.size + 1,W1.heap.size,W0.heap.size,pb,hb,ob,wb,.map none,List.replicate n (.pointer none),hw,[],[]⟩,rfl,Good.new _ B n HB.o.1 HB.o.2 rfl rfl rfl rfl IW.o,?_⟩
  rw [fE _ B n rfl rfl rfl rfl];refine (((((TP.o.aZ _ rfl _)).drew.plus TW.o).aZ _ rfl _).aZ (W1.heap.size + 1) (by simp) _).perm (List.Perm.refl _) (Own.aE _ _ fun x=>?_);simp only [List.count_append,List.count_cons];omega
 ·refine ⟨⟨W1.heap.size + 1 + 1,W1.heap.size,W1.heap.size + 1,pb,hb,ob,wb,.map none,List.replicate n (.pointer none),hw,[],[]⟩,rfl,Good.new _ B n HB.o.1 HB.o.2 rfl rfl rfl rfl IW.o,?_⟩
  rw [fE _ B n rfl rfl rfl rfl];refine (((TP.o.drew.plus TW.o).aZ _ rfl _).aZ (W1.heap.size + 1) (by simp) _).aZ (W1.heap.size + 1 + 1) (by simp) _ |>.perm (List.Perm.refl _) (Own.aE _ _ fun x=>?_);simp only [List.count_append,List.count_cons];omega
 ·refine ⟨⟨W1.heap.size + 1 + 1,W1.heap.size + 1,W1.heap.size,pb,hb,ob,wb,.map none,List.replicate n (.pointer none),hw,[],[]⟩,rfl,Good.new _ B n HB.o.1 HB.o.2 rfl rfl rfl rfl IW.o,?_⟩
  rw [fE _ B n rfl rfl rfl rfl];refine (((TP.o.drew.plus TW.o).aZ _ rfl _).aZ (W1.heap.size + 1) (by simp) _).aZ (W1.heap.size + 1 + 1) (by simp) _ |>.perm (List.Perm.refl _) (Own.aE _ _ fun x=>?_);simp only [List.count_append,List.count_cons];omega
section
variable {l:Lay} {g:Ga} {w:World}
theorem tY (k : l.Good g) (h : Own.Has w (l.heap g)) (hfull : ∀ j : Nat, g.slots[j]? ≠ some none) :
  Calls Tryz.prog 9 #[.pointer (some ⟨l.gb,0,none⟩)] w fun e w'=>e = .returned (.tuple #[.int .i64 (-1),.string ⟨#[70]⟩]) /\ w'=w:=by
 have c0:=cell h 0 _ rfl;have h8:=k.small;have K:=hhh (And.intro k hfull);have HF:=hhh (fH w);clear k hfull;go_enter Tryz.func9,Tryz.ntmps9;go_wp2;go_loopw [13] (fun x wr=>∃ (j:Nat),x = .int .i64 j /\ j <= g.n /\ wr=w) (fun x _=>g.n - (intOf x).toNat)
 case atStart=>exact ⟨0,rfl,by omega,rfl⟩
 case round =>
  obtain ⟨j,rfl,hj,rfl⟩:=hrel;by_cases hjn:j < g.n
  ·have hI:(j:Int) < (g.n:Int):=by omega
   have hjv:j < l.vs.length:=by rw [K.o.1.uR];exact hjn
   have hjs:j < g.slots.length:=by rw [K.o.1.len];exact hjn
   have cs:=jS h j _ (List.getElem?_eq_getElem hjv);have hs':∃ s,g.slots[j]? = some (some s):=by
    cases hs:g.slots[j]'hjs with
    | none=>exact absurd (by rw [List.getElem?_eq_getElem hjs,hs]) (K.o.2 j)
    | some s=>exact ⟨s,by rw [List.getElem?_eq_getElem hjs,hs]⟩
   obtain ⟨s,hs'⟩:=hs';obtain ⟨b,_,_,_,hv,_⟩:=K.o.1.slots.dX j s hs';rw [List.getElem?_eq_getElem hjv] at hv;rw [Option.some.inj hv] at cs;clear hs' hv;go_wp2;go_roundw
   case rel=>exact ⟨j + 1,by go_num,by omega,trivial⟩
   case measure=>simp [intOf];omega
  ·have hI:(g.n:Int) <= (j:Int):=by omega
   go_wp2_with (fail);refine HF.o.mono ?_;rintro e W1 ⟨rfl,rfl⟩;go_wp2;go_ret2;exact ⟨rfl,rfl⟩
end
end Gate
end
section
open Go.RowKit
namespace Gate
open Purse (ints)
theorem aGd (b:Nat) (x y:Nat):Own.Slc 3 (ints [x,y]) (.slice (some ⟨b,0,none⟩) 2 2) [Own.row b 3 (ints [x,y])]:=Own.Slc.row (e:=3) (xs:=ints [x,y]) b [] [] (by simp [ints,maxLen])
theorem aGo {h:Own.Heap} {u v:World} (t:Own.aA [] h u v):Below u.heap.size u v:=t.below (fun x hx=>by simp at hx) (Nat.le_refl _)
def TR:ByteArray:=⟨#[84,82]⟩
theorem aCd (T:Esc.bI) (w:World):Calls Tryz.prog 7 #[] w fun e w'=>e = .returned (.bool true) /\ Below w.heap.size w w':=by
 have HN:=hhh (eC 1400 2 (by omega) (by omega) (by omega) (by omega) w);have O0:=hhh (Ga.Ok.new T 0 (by omega) 1400 2 (by omega));go_enter Tryz.func7,Tryz.ntmps7;go_wp2_with (fail);refine HN.o.mono ?_;rintro e W1 ⟨l0,rfl,k0,t0⟩;have HC1:=hhh (jC k0 O0.o t0.has 0 rfl (fun j hj=>by omega) (Nat.zero_le _) (Nat.zero_le _));have T0:=hhh t0;clear k0 t0 HN;go_wp2_with (fail);refine HC1.o.mono ?_;rintro e W2 ⟨rfl,l1,c1,k1,o1,e1,t1⟩;have hne1:∀ j,j < 1 -> ((Ga.new 1400 2).cH 0 c1).slots[j]? ≠ some none:=by
  intro j hj;obtain rfl:j=0:=by omega
  intro hh;have hh2:(some (some Ses.St.new):Option (Option Se))=some none:=hh
  cases hh2
 have HC2:=hhh (jC k1 o1 t1.has 1 rfl hne1 (by show 1 <= 800;omega) (by show 1 <= 400;omega));clear hne1;rw [show (1 + (Ga.cH (Ga.new 1400 2) 0 c1).n * (Ga.cH (Ga.new 1400 2) 0 c1).many:Nat)=3 from rfl,e1] at HC2;have T1:=hhh (T0.o.trans t1);clear k1 o1 t1 HC1 O0 T0;rw [show (0 + (Ga.new 1400 2).n * (Ga.new 1400 2).many:Nat)=0 from rfl];go_wp2_with (fail);refine HC2.o.mono ?_;rintro e W3 ⟨rfl,l2,c2,k2,o2,e2,t2⟩;obtain ⟨g,hg⟩:∃ g,g=(Ga.cH (Ga.new 1400 2) 0 c1).cH 1 c2:=⟨_,rfl⟩;have S0:g.slots=[some Ses.St.new,some Ses.St.new]:=by rw [hg];rfl
 have S1:g.ids=[0,3]:=by rw [hg];rfl
 have S2:g.n=2:=by rw [hg];rfl
 have S3:g.pu.has.sum=4:=by rw [hg];rfl
 have S4:g.pu.left=0:=by rw [hg];rfl
 have S5:g.live=[0,3]:=by rw [hg];rfl
 rw [<- hg] at k2 o2 t2;have T2:=T1.o.trans t2;have hgb:l2.gb=l0.gb:=e2;have HF3:=hhh (tY k2 T2.has (by intro j;rw [S0];match j with | 0=>simp | 1=>simp | j + 2=>simp));have HT4:=hhh (fU k2 T2.has);have HL5:=hhh (vJ k2 T2.has);have hfind:g.find 3=some 1:=by unfold Ga.find;rw [S0,S1,S2];rfl
 have HC7:=hhh (fun W (hW:Own.Has W (l2.heap g))=>sF k2 o2 hW 3 TR (by decide) 1 hfind Ses.St.new (by rw [S0];rfl));rw [S4,hgb,show (Ses.St.new.dS TR.data.toList ((700 - Ses.St.new.aN + 0:Nat):Int):Nat)=2 from rfl] at HC7;rw [S3,hgb] at HT4;rw [S5,hgb] at HL5;rw [hgb] at HF3;have TT2:=hhh T2;have SS:=hhh (And.intro S0 (And.intro S1 (And.intro S2 (And.intro hgb S4))));clear hg S0 S1 S2 S3 S4 S5 T2 k2 o2 t2 e2 e1 HC2 T1 hfind hgb;go_wp2_with (fail);refine HF3.o.mono ?_;rintro e W4 ⟨rfl,rfl⟩;go_wp2_with (fail);refine HT4.o.mono ?_;rintro e W4 ⟨rfl,rfl⟩;go_wp2_with (fail);refine HL5.o.mono ?_;rintro e W5 ⟨ad,c,ho,rfl,hs,t5⟩;replace hs:Own.Slc 3 (ints [0,3]) (.slice ad 2 c) ho:=hs;have t6:Own.aA (l2.heap g) (l2.heap g) _ (W5.alloc (.cells #[.int .i64 0,.int .i64 3] 3)):=t5.forget.aD _;have t7:=t5.aZ _ rfl (.cells #[.int .i64 0,.int .i64 3] 3);have HS6:=hhh (aEb hs (aGd W5.heap.size 0 3) (Own.Has.left (b:=l2.heap g) (Own.Has.right (a:=[_]) t7.has)) (Own.Has.left (a:=[_]) t7.has) (by decide));rw [show decide ([0,3]=[0,3])=true from rfl] at HS6;have T6:=hhh t6;clear hs t5 t6 t7 HL5;go_wp2_with (fail);refine HS6.o.mono ?_;rintro e W6 ⟨rfl,n6,rfl⟩;have t8:=TT2.o.trans (T6.o.drewN n6);have HC8:=hhh (HC7.o _ t8.has);have T8:=hhh t8;clear HC7 t8 HS6 T6;go_wp2_with (fail);refine HC8.o.mono ?_;rintro e W7 ⟨rfl,l3,g3,k3,o3,h3,like,e3,t9⟩;have R0:g3.slots=[some Ses.St.new,some (Ses.St.new.feed TR.data.toList ((700 - Ses.St.new.aN + 0:Nat):Int))]:=by rw [h3,SS.o.1];rfl
 have R1:g3.find 3=some 1:=by unfold Ga.find;rw [R0,like.ids,like.n,SS.o.2.1,SS.o.2.2.1];rfl
 have R2:g3.told (g3.find 3)=4:=by
  rw [R1];show g3.pu.has.getD 1 0=4;rw [List.getD_eq_getElem?_getD,o3.lS 1 _ (by rw [R0];rfl)];rfl
 have t10:=T8.o.trans t9;have HCh:=hhh (fL k3 o3 t10.has 3);rw [R2,e3] at HCh;have HB:=hhh (aGo t10);clear k3 o3 h3 like e3 t9 R0 R1 R2 t10 HC8 T8;go_wp2_with (fail);refine HCh.o.mono ?_;rintro e W8 ⟨rfl,rfl⟩;go_wp2;go_ret;exact ⟨rfl,HB.o⟩
end Gate
end
end Go.Proofs.YtfheacchdfdeiaaGreat
