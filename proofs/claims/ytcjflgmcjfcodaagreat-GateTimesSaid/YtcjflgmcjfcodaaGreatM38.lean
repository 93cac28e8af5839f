/- Texts of the walk, joined. -/
import Derived.Test.YtcjflgmcjfcodaaGreatM34
import Derived.Test.YtcjflgmcjfcodaaGreatM35
import Derived.Test.YtcjflgmcjfcodaaGreatM36
import Derived.Test.YtcjflgmcjfcodaaGreatM37
import Derived.Deep.RegionWith
set_option maxRecDepth 100000
set_option maxHeartbeats 8000000
namespace Go.Proofs.Tryz end Go.Proofs.Tryz
namespace Go.Proofs.YtcjflgmcjfcodaaGreat
open Go.Proofs.Tryz
section
open Go.RowKit
namespace Gate
abbrev Se:=Ses.St
def chargeO:Option Se -> Nat
 | none=>0
 | some s=>s.aH
inductive dJ:List (Option Se) -> List Value -> Own.Heap -> Prop where
 | nil:dJ [] [] []
 | free {ss:List (Option Se)} {vs:List Value} {h:Own.Heap} (k:dJ ss vs h):dJ (none :: ss) (.pointer none :: vs) h
 | used {ss:List (Option Se)} {vs:List Value} {h:Own.Heap} {s:Se} {b:Nat} {h0:Own.Heap} (i:Ses.Is s b h0) (k:dJ ss vs h):dJ (some s :: ss) (.pointer (some ⟨b,0,none⟩) :: vs) (h0 ++ h)
theorem dJ.length {ss:List (Option Se)} {vs:List Value} {h:Own.Heap} (k:dJ ss vs h):vs.length=ss.length:=by
 induction k with
 | nil=>rfl
 | free _ ih=>simp [ih]
 | used _ _ ih=>simp [ih]
theorem dJ.mK {ss : List (Option Se)} {vs : List Value} {h : Own.Heap} (k : dJ ss vs h) : ∀ i, ss[i]? = some none →
  vs[i]? = some (.pointer none) /\ ∃ h1 h2,h=h1 ++ h2 /\ ∀ s b h0,Ses.Is s b h0 -> dJ (ss.set i (some s)) (vs.set i (.pointer (some ⟨b,0,none⟩))) (h1 ++ (h0 ++ h2)):=by
 induction k with
 | nil=>intro i hi;simp at hi
 | @free ss vs h k ih =>
  intro i hi
  cases i with
  | zero=>exact ⟨rfl,[],h,rfl,fun s b h0 is=>(dJ.used is k:dJ _ _ (h0 ++ h))⟩
  | succ i =>
   obtain ⟨h1,a,b,h2,h3⟩:=ih i (by simpa using hi);exact ⟨by simpa using h1,a,b,h2,fun s bb h0 is=>.free (h3 s bb h0 is)⟩
 | @used ss vs h s b h0 is k ih =>
  intro i hi
  cases i with
  | zero=>simp at hi
  | succ i =>
   obtain ⟨h1,a,c,h2,h3⟩:=ih i (by simpa using hi);refine ⟨by simpa using h1,h0 ++ a,c,by rw [h2,List.append_assoc],fun s' bb h0' is'=>?_⟩;have:=dJ.used is (h3 s' bb h0' is');rw [<- List.append_assoc] at this;exact this
theorem dJ.dT {ss : List (Option Se)} {vs : List Value} {h : Own.Heap} (k : dJ ss vs h) : ∀ i s, ss[i]? = some (some s) →
  ∃ b h1 h0 h2,vs[i]? = some (.pointer (some ⟨b,0,none⟩)) /\ h=h1 ++ (h0 ++ h2) /\ Ses.Is s b h0 /\ (∀ s' h0',Ses.Is s' b h0' -> dJ (ss.set i (some s')) vs (h1 ++ (h0' ++ h2))) /\
   dJ (ss.set i none) (vs.set i (.pointer none)) (h1 ++ h2):=by
 induction k with
 | nil=>intro i s hi;simp at hi
 | @free ss vs h k ih =>
  intro i s hi
  cases i with
  | zero=>simp at hi
  | succ i =>
   obtain ⟨b,h1,h0,h2,a1,a2,a3,a4,a5⟩:=ih i s (by simpa using hi);exact ⟨b,h1,h0,h2,by simpa using a1,a2,a3,fun s' h0' is=>.free (a4 s' h0' is),.free a5⟩
 | @used ss vs h s0 b0 h00 is0 k ih =>
  intro i s hi
  cases i with
  | zero =>
   obtain rfl:s0=s:=by simpa using hi
   exact ⟨b0,[],h00,h,rfl,rfl,is0,fun s' h0' is=>(dJ.used is k:dJ _ _ (h0' ++ h)),.free k⟩
  | succ i =>
   obtain ⟨b,h1,h0,h2,a1,a2,a3,a4,a5⟩:=ih i s (by simpa using hi);refine ⟨b,h00 ++ h1,h0,h2,by simpa using a1,by rw [a2,List.append_assoc],a3,fun s' h0' is=>?_,?_⟩
   ·have:=dJ.used is0 (a4 s' h0' is)
    rw [<- List.append_assoc] at this;exact this
   ·have:=dJ.used is0 a5
    rw [<- List.append_assoc] at this;exact this
structure Ga where
 n:Nat
 slots:List (Option Se)
 ids:List Nat
 many:Nat
 pu:Purse.St
 turns:List Nat
 es:Timer.Ents
 now:Nat
def front (n sb ib many pb wb:Nat):List Value :=
 [.slice (some ⟨sb,0,none⟩) n n,.slice (some ⟨ib,0,none⟩) n n,.int .i64 (many:Int),.pointer (some ⟨pb,0,none⟩),.pointer (some ⟨wb,0,none⟩)]
structure Lay where
 (gb sb ib pb hb ob wb:Nat)
 mv:Value
 vs:List Value
 (hw ht hs:Own.Heap)
def Lay.row (l:Lay) (g:Ga):Nat × Obj:=Timer.at_ l.gb 53 (front g.n l.sb l.ib g.many l.pb l.wb) g.now l.mv []
def Lay.nA (l:Lay):Nat × Obj:=Own.row l.sb 58 l.vs
def Lay.mW (l:Lay) (g:Ga):Nat × Obj:=Own.row l.ib 3 (Purse.ints g.ids)
def Lay.eF (l:Lay) (g:Ga):Own.Heap:=Purse.heap g.pu l.pb l.hb l.ob
def Lay.heap (l:Lay) (g:Ga):Own.Heap:=l.row g :: l.nA :: l.mW g :: (l.eF g ++ (l.hw ++ (l.ht ++ l.hs)))
structure Lay.Good (l:Lay) (g:Ga):Prop where
 len:g.slots.length=g.n
 ids:g.ids.length=g.n
 pun:g.pu.has.length=g.n
 pu:g.pu.Fits
 wheel:Wheel.Is g.n g.turns l.wb l.hw
 timer:Timer.Map g.many g.es l.mv l.ht
 slots:dJ g.slots l.vs l.hs
section
variable {l:Lay} {g:Ga} {w:World}
theorem Lay.Good.small (k:l.Good g):g.n <= 8:=by rw [<- k.pun,k.pu.same];exact k.pu.few
theorem Lay.Good.wJ (k:l.Good g):l.vs.length=g.n:=k.slots.length.trans k.len
theorem Lay.rX (l:Lay) (g:Ga):l.row g ∈ l.heap g:=List.mem_cons_self ..
theorem Lay.aF9 (l:Lay) (g:Ga):l.nA ∈ l.heap g:=mcm _ mcs
theorem Lay.aMk (l:Lay) (g:Ga):l.mW g ∈ l.heap g:=mcm _ (mcm _ mcs)
theorem cell (h:Own.Has w (l.heap g)) (j:Nat) (v:Value) (hj:(front g.n l.sb l.ib g.many l.pb l.wb)[j]? = some v):w.cell? ⟨l.gb,j,none⟩=some v:=by
 refine h.cell l.gb _ _ (l.rX g) j v ?_;have:j < (front g.n l.sb l.ib g.many l.pb l.wb).length:=(List.getElem?_eq_some_iff.1 hj).1;rw [List.getElem?_append_left this];exact hj
theorem free (h:Own.Has w (l.heap g)) (j:Nat):w.frozen? ⟨l.gb,j,none⟩=false:=h.free l.gb _ _ (l.rX g) j
theorem kJ (h:Own.Has w (l.heap g)) (j:Nat) (v:Value) (hj:l.vs[j]? = some v):w.cell? ⟨l.sb,j,none⟩=some v:=h.cell l.sb _ _ (l.aF9 g) j v hj
theorem aHp (h:Own.Has w (l.heap g)) (j:Nat):w.frozen? ⟨l.sb,j,none⟩=false:=h.free l.sb _ _ (l.aF9 g) j
theorem oC (h:Own.Has w (l.heap g)) (j:Nat) (hj:j < g.ids.length):w.cell? ⟨l.ib,j,none⟩=some (.int .i64 ((g.ids[j]'hj:Nat):Int)):=h.cell l.ib _ _ (l.aMk g) j _ (by simp [Purse.ints,hj])
theorem aLw (h:Own.Has w (l.heap g)) (j:Nat):w.frozen? ⟨l.ib,j,none⟩=false:=h.free l.ib _ _ (l.aMk g) j
theorem eS (l:Lay) (g:Ga):(l.heap g).Perm (l.eF g ++ (l.row g :: l.nA :: l.mW g :: (l.hw ++ (l.ht ++ l.hs)))):=by
 refine Own.aE _ _ fun x=>?_
 unfold Lay.heap;simp only [List.count_append,List.count_cons];omega
theorem eF (h:Own.Has w (l.heap g)):Own.Has w (l.eF g):=(h.perm (eS l g)).left
theorem dH (l:Lay) (g:Ga) (h1 h0 h2:Own.Heap) (e:l.hs=h1 ++ (h0 ++ h2)):(l.heap g).Perm (h0 ++ (l.row g :: l.nA :: l.mW g :: (l.eF g ++ (l.hw ++ (l.ht ++ (h1 ++ h2)))))):=by
 refine Own.aE _ _ fun x=>?_
 unfold Lay.heap;rw [e];simp only [List.count_append,List.count_cons];omega
theorem fA (h:Own.Has w (l.heap g)) (h1 h0 h2:Own.Heap) (e:l.hs=h1 ++ (h0 ++ h2)):Own.Has w h0:=(h.perm (dH l g h1 h0 h2 e)).left
def Ga.bZ (g:Ga) (i x:Nat):Ga:={ g with pu:=g.pu.put i x }
theorem Lay.Good.bZ (k:l.Good g) (i x:Nat) (h:i < g.n) (hm:Purse.over x <= g.pu.left + Purse.over (g.pu.has.getD i 0)):l.Good (g.bZ i x) :=
 ⟨k.len,k.ids,(List.length_set ..).trans k.pun,k.pu.put i x (by rw [k.pun];exact h) hm,k.wheel,k.timer,k.slots⟩
theorem cK {T : Esc.bA} {N : Nat} (k : l.Good g) (h : Own.Has w (l.heap g)) (i : Nat) (s : Se) (hs : g.slots[i]? = some (some s)) (ho : g.pu.opn[i]? = some true) (hg : s.Good T N) (hN : N ≤ 2600) (hm : Purse.over s.aH ≤ g.pu.left + Purse.over (g.pu.has.getD i 0)) :
  Calls prog 23 #[.pointer (some ⟨l.gb,0,none⟩),.int .i64 (i:Int)] w fun e w'=>(∃ v,e = .returned v) /\
   l.Good (g.bZ i s.aH) /\ Own.aA (l.heap g) (l.heap (g.bZ i s.aH)) w w':=by
 have hi:i < g.n:=by rw [<- k.len];exact (List.getElem?_eq_some_iff.1 hs).1
 have hip:i < g.pu.has.length:=by rw [k.pun];exact hi
 obtain ⟨b,h1,h0,h2,a1,a2,a3,a4,a5⟩:=k.slots.dT i s hs;have c0:=cell h 0 _ rfl;have c3:=cell h 3 _ rfl;have cs:=kJ h i _ a1;have ho2:g.pu.opn[i]'(k.pu.same ▸ hip)=true:=by
  rw [List.getElem?_eq_getElem (k.pu.same ▸ hip)] at ho;exact Option.some.inj ho
 have hle:=Ses.uL hg;have hl:g.pu.lets i s.aH=true:=by unfold Purse.St.lets;simpa using hm
 have HC:=hhh (fun W (hW:Own.Has W h0)=>Ses.cK a3 hW hg hN);have H0:=hhh (fA h h1 h0 h2 a2);have HS:=fun W (hW:Own.Has W (l.eF g))=>Purse.xD hW k.pu i s.aH hip (by omega) ho2
 rw [hl] at HS;simp only [Purse.St.set,ifp hl] at HS;have HS:=hhh HS;have HG:=hhh (k.bZ i s.aH hi hm);have hI:(i:Int) < (g.n:Int):=by omega
 have HH:=hhh h;obtain ⟨C,hC⟩:∃ C,C=s.aH:=⟨_,rfl⟩;rw [<- hC] at HC HS HG |-;clear hC hm ho ho2 hl hle a4 a5 a3 a2 hs hip hg hN;go_enter func23,ntmps23;go_wp2;go_region_with (first | (refine (HC.o _ H0.o.drew).mono ?_;rintro e W1 ⟨rfl,n1,rfl⟩) | (refine (HS.o _ ((eF HH.o).drewN _)).mono ?_;rintro e W1 ⟨rfl,ht⟩))
 all_goals go_wp2
 all_goals go_end0
 all_goals exact ⟨⟨_,rfl⟩,HG.o,((Own.aA.refl HH.o).drewN _).trans (Own.aA.focus (HH.o.drewN _) (eS l g) (fun _=>ht) (eS l (g.bZ i C)))⟩
end
end Gate
end
section
open Go.RowKit
namespace Gate
section
variable {l:Lay} {g:Ga} {w:World}
theorem aJ7 (a l:Nat):((a:Int)).tmod (l:Int)=((a % l:Nat):Int):=by
 rw [Int.tmod_eq_emod_of_nonneg (by omega),Int.natCast_emod]
def Ga.find (g:Ga) (id:Int):Option Nat :=
 if id < 0 then none
 else
  let i:=id.toNat % g.n
  match g.slots[i]? with
  | some (some _)=>if g.ids[i]? = some id.toNat then some i else none
  | _=>none
def kE (l:Lay) (o:Option Nat):Ending :=
 match o with
 | none=>.returned (.tuple #[.pointer none,.int .i64 0])
 | some i=>.returned (.tuple #[(l.vs[i]?).getD undef,.int .i64 (i:Int)])
theorem lP (k : l.Good g) (h : Own.Has w (l.heap g)) (id : Int) (h0 : 0 < g.n) :
  Calls prog 27 #[.pointer (some ⟨l.gb,0,none⟩),.int .i64 id] w fun e w'=>e=kE l (g.find id) /\ w'=w:=by
 have c0:=cell h 0 _ rfl;have c1:=cell h 1 _ rfl;have h8:=k.small;by_cases hneg:id < 0
 ·have HF:=hhh (show g.find id=none by unfold Ga.find;rw [ifp hneg])
  clear h k;go_enter func27,ntmps27;go_wp2;go_ret2;rw [HF.o];exact ⟨rfl,rfl⟩
 ·obtain ⟨a,rfl⟩:∃ a:Nat,id=(a:Int):=⟨id.toNat,by omega⟩
  obtain ⟨i,hi⟩:∃ i,i=a % g.n:=⟨_,rfl⟩;have hil:i < g.n:=by rw [hi];exact Nat.mod_lt _ h0
  have hrem:=aJ7 a g.n;have hrem':(a:Int) % (g.n:Int)=(i:Int):=by rw [hi,Int.natCast_emod]
  rw [<- hi] at hrem;have hI:(i:Int) < (g.n:Int):=by omega
  have hiv:i < l.vs.length:=by rw [k.wJ];exact hil
  have hii:i < g.ids.length:=by rw [k.ids];exact hil
  have cs:=kJ h i _ (List.getElem?_eq_getElem hiv);have ci:=oC h i hii;have hsl:i < g.slots.length:=by rw [k.len];exact hil
  cases hs:g.slots[i]'hsl with
  | none =>
   have hs':g.slots[i]? = some none:=by rw [List.getElem?_eq_getElem hsl,hs]
   obtain ⟨hv,_⟩:=k.slots.mK i hs';rw [List.getElem?_eq_getElem hiv] at hv;rw [Option.some.inj hv] at cs;have HF:=hhh (show g.find (a:Int)=none by unfold Ga.find;rw [ifn hneg];simp only [Int.toNat_natCast,<- hi,hs']);have Hid:=hhh (ai h8 (ai h0 (ai hi hsl)));clear h k hs hs' hv hi hneg hsl h8;go_enter func27,ntmps27;go_wp2;go_ret2;rw [HF.o];exact ⟨rfl,rfl⟩
  | some s =>
   have hs':g.slots[i]? = some (some s):=by rw [List.getElem?_eq_getElem hsl,hs]
   obtain ⟨b,_,_,_,hv,_⟩:=k.slots.dT i s hs';have HV:=hhh hv;rw [List.getElem?_eq_getElem hiv] at hv;rw [Option.some.inj hv] at cs;obtain ⟨y,hy⟩:∃ y,y=g.ids[i]'hii:=⟨_,rfl⟩;rw [<- hy] at ci;have hyi:g.ids[i]? = some y:=by rw [List.getElem?_eq_getElem hii,hy]
   by_cases hya:y=a
   ·have ht:((y:Int) == (a:Int))=true:=by rw [hya];simp
    have HF:=hhh (show g.find (a:Int)=some i by unfold Ga.find;rw [ifn hneg];simp only [Int.toNat_natCast,<- hi,hs',hyi,hya];rw [ifp trivial]);have Hid:=hhh (ai h8 (ai h0 (ai hi (ai hsl hya))));clear h k hs hs' hv hi hneg hsl h8 hy hyi hya;go_enter func27,ntmps27;go_wp2;go_ret2;rw [HF.o];exact ⟨by simp only [kE,HV.o];rfl,rfl⟩
   ·have ht:((y:Int) == (a:Int))=false:=by rw [bfn];omega
    have HF:=hhh (show g.find (a:Int)=none by unfold Ga.find;rw [ifn hneg];simp only [Int.toNat_natCast,<- hi,hs',hyi];rw [ifn (by intro e;exact hya (Option.some.inj e))]);have Hid:=hhh (ai h8 (ai h0 (ai hi (ai hsl hya))));clear h k hs hs' hv hi hneg hsl h8 hy hyi hya;go_enter func27,ntmps27;go_wp2;go_ret2;rw [HF.o];exact ⟨rfl,rfl⟩
end
end Gate
end
section
open Go.RowKit
namespace Gate
structure Ga.Ok (T:Esc.bA) (N:Nat) (g:Ga):Prop where
 pos:0 < g.n
 len:g.slots.length=g.n
 timed:∀ i s,g.slots[i]? = some (some s) -> s.ended=false -> i ∈ g.es.map Prod.fst
 untimed:∀ i,g.slots[i]? = some none -> i ∉ g.es.map Prod.fst
 once:(g.es.map Prod.fst).Nodup
 has:g.pu.has=g.slots.map chargeO
 opn:g.pu.opn=g.slots.map Option.isSome
 fA:∀ s,some s ∈ g.slots -> s.Good T N
 ids:∀ x ∈ g.ids,x <= 100000
 turns:∀ i,g.slots[i]? = some none -> i ∉ g.turns
 turnsOnce:g.turns.Nodup
 turnsLive:∀ i s,g.slots[i]? = some (some s) -> i ∈ g.turns
 few:g.turns.length <= 500
 many:g.many <= 900
 cap:N <= 2600
 fresh:∀ e ∈ g.es,e.1 < g.n /\ Timer.fG g.now e.2.2
 now:g.now <= 100000
theorem rU (l:List Nat) (h:∀ x ∈ l,x <= 700):Purse.dA l=0:=by
 unfold Purse.dA
 induction l with
 | nil=>rfl
 | cons x l ih =>
  rw [List.map_cons,List.sum_cons,ih fun y hy=>h y (mcm _ hy)];have:=h x mcs;unfold Purse.over;omega
section
variable {T:Esc.bA} {N:Nat}
theorem Ga.Ok.nJ {g:Ga} (o:g.Ok T N) (i:Nat) (s:Se) (hs:g.slots[i]? = some (some s)):g.pu.has[i]? = some s.aH:=by
 rw [o.has,List.getElem?_map,hs];rfl
theorem Ga.Ok.jK {g:Ga} (o:g.Ok T N) (i:Nat) (s:Se) (hs:g.slots[i]? = some (some s)):g.pu.opn[i]? = some true:=by
 rw [o.opn,List.getElem?_map,hs];rfl
end
section
variable {T:Esc.bA} {N:Nat} {l:Lay} {g:Ga} {w:World}
theorem nO (k:l.Good g) (h:Own.Has w (l.heap g)):Calls prog 13 #[.pointer (some ⟨l.gb,0,none⟩)] w fun e w'=>e = .returned (.int .i64 (g.pu.has.sum:Int)) /\ w'=w:=by
 have c3:=cell h 3 _ rfl;have HT:=hhh (Purse.nO (eF h) k.pu);clear h k;go_enter func13,ntmps13;go_wp2_with (fail);refine HT.o.mono ?_;rintro e W1 ⟨rfl,rfl⟩;go_wp2;go_ret;exact ⟨rfl,rfl⟩
def Ga.told (g:Ga):Option Nat -> Nat
 | none=>0
 | some i=>g.pu.has.getD i 0
theorem uK {id:Int} {i:Nat} (h:g.find id=some i):∃ s,g.slots[i]? = some (some s):=by
 unfold Ga.find at h;split at h
 ·simp at h
 ·dsimp only at h
  split at h
  ·rename_i s hs
   split at h
   ·obtain rfl:=Option.some.inj h
    exact ⟨s,hs⟩
   ·simp at h
  ·simp at h
theorem vN (k : l.Good g) (o : g.Ok T N) (h : Own.Has w (l.heap g)) (id : Int) :
  Calls prog 16 #[.pointer (some ⟨l.gb,0,none⟩),.int .i64 id] w fun e w'=>e = .returned (.int .i64 (g.told (g.find id):Int)) /\ w'=w:=by
 have c3:=cell h 3 _ rfl;have HO:=hhh (lP k h id o.pos)
 cases hf:g.find id with
 | none =>
  rw [hf] at HO;have HT:=hhh (show g.told none=0 from rfl);clear h k o hf;go_enter func16,ntmps16;go_wp2_with (fail);refine HO.o.mono ?_;rintro e W1 ⟨rfl,rfl⟩;unfold kE;go_wp2;go_ret;exact ⟨rfl,rfl⟩
 | some i =>
  rw [hf] at HO;obtain ⟨s,hs⟩:=uK hf;have ha:=o.nJ i s hs;have hil:i < g.pu.has.length:=(List.getElem?_eq_some_iff.1 ha).1;obtain ⟨b,_,_,_,hv,_⟩:=k.slots.dT i s hs;have ho:=o.jK i s hs;rw [List.getElem?_eq_getElem (k.pu.same ▸ hil)] at ho;have HP:=hhh (Purse.aJo (eF h) k.pu i hil (Option.some.inj ho));have HT:=hhh (show g.told (some i)=g.pu.has[i]'hil by simp [Ga.told,List.getD_eq_getElem?_getD,hil]);have HV:=hhh hv;clear h k o hf hs ha ho hv;rw [HT.o];go_enter func16,ntmps16;go_wp2_with (fail);refine HO.o.mono ?_;rintro e W1 ⟨rfl,rfl⟩;simp only [kE,HV.o];go_wp2_with (fail);refine HP.o.mono ?_;rintro e W1 ⟨rfl,rfl⟩;go_wp2;go_ret;exact ⟨rfl,rfl⟩
end
end Gate
end
section
open Go.RowKit
namespace Gate
theorem xA (es:Timer.Ents) (k:Nat) (h:k ∈ es.map Prod.fst):∃ A c r B,es=A ++ (k,c,r) :: B /\ ∀ e ∈ A,e.1 ≠ k:=by
 induction es with
 | nil=>simp at h
 | cons e es ih =>
  by_cases hk:e.1=k
  ·obtain ⟨k',c,r⟩:=e
   simp only at hk;subst hk;exact ⟨[],c,r,es,rfl,by simp⟩
  ·have h2:k ∈ es.map Prod.fst:=by
    rw [List.map_cons] at h;rcases List.mem_cons.1 h with h1 | h1
    ·exact absurd h1.symm hk
    ·exact h1
   obtain ⟨A,c,r,B,h3,h4⟩:=ih h2;refine ⟨e :: A,c,r,B,by rw [h3];rfl,fun e' he'=>?_⟩;rcases List.mem_cons.1 he' with rfl | h5
   ·exact hk
   ·exact h4 e' h5
def Ga.cT (g:Ga) (i:Nat) (s:Se):Ga:={ g with slots:=g.slots.set i (some s) }
theorem Lay.Good.cT {l:Lay} {g:Ga} (k:l.Good g) (i:Nat) (s:Se) (hs:Own.Heap) (sl:dJ (g.slots.set i (some s)) l.vs hs):({ l with hs:=hs }:Lay).Good (g.cT i s) :=
 ⟨(List.length_set ..).trans k.len,k.ids,k.pun,k.pu,k.wheel,k.timer,sl⟩
theorem Ga.Ok.cT {T:Esc.bA} {N:Nat} {g:Ga} (o:g.Ok T N) (i:Nat) (s t:Se) (hs:g.slots[i]? = some (some s)) (ht:t.Good T N) (hte:t.ended=false -> s.ended=false):((g.cT i t).bZ i t.aH).Ok T N where
 pos:=o.pos
 len:=(List.length_set ..).trans o.len
 timed:=by
  intro j u hj hue;have hl:i < g.slots.length:=(List.getElem?_eq_some_iff.1 hs).1;by_cases hij:i=j
  ·subst hij
   rw [show ((g.cT i t).bZ i t.aH).slots=g.slots.set i (some t) from rfl,List.getElem?_set_self hl] at hj;obtain rfl:t=u:=by simpa using hj
   exact o.timed i s hs (hte hue)
  ·exact o.timed j u (by rw [show ((g.cT i t).bZ i t.aH).slots=g.slots.set i (some t) from rfl,List.getElem?_set_ne hij] at hj;exact hj) hue
 untimed:=by
  intro j hj;by_cases hij:i=j
  ·subst hij
   have hl:i < g.slots.length:=(List.getElem?_eq_some_iff.1 hs).1;rw [show ((g.cT i t).bZ i t.aH).slots=g.slots.set i (some t) from rfl,List.getElem?_set_self hl] at hj;simp at hj
  ·exact o.untimed j (by rw [show ((g.cT i t).bZ i t.aH).slots=g.slots.set i (some t) from rfl,List.getElem?_set_ne hij] at hj;exact hj)
 once:=o.once
 has:=by
  show g.pu.has.set i t.aH=(g.slots.set i (some t)).map chargeO;rw [o.has,List.map_set];rfl
 opn:=by
  show g.pu.opn=(g.slots.set i (some t)).map Option.isSome;rw [o.opn,List.map_set];have:(g.slots.map Option.isSome)[i]? = some true:=by rw [List.getElem?_map,hs];rfl
  apply List.ext_getElem?;intro j;by_cases hij:i=j
  ·subst hij
   have hl:i < (g.slots.map Option.isSome).length:=(List.getElem?_eq_some_iff.1 this).1;rw [List.getElem?_set_self hl,this];rfl
  ·rw [List.getElem?_set_ne hij]
 fA:=by
  intro u hu;rcases List.mem_or_eq_of_mem_set hu with h1 | h1
  ·exact o.fA u h1
  ·rw [Option.some.inj h1];exact ht
 ids:=o.ids
 turns:=by
  intro j hj;by_cases hij:i=j
  ·subst hij
   have hl:i < g.slots.length:=(List.getElem?_eq_some_iff.1 hs).1;rw [show ((g.cT i t).bZ i t.aH).slots=g.slots.set i (some t) from rfl,List.getElem?_set_self hl] at hj;simp at hj
  ·exact o.turns j (by rw [show ((g.cT i t).bZ i t.aH).slots=g.slots.set i (some t) from rfl,List.getElem?_set_ne hij] at hj;exact hj)
 turnsOnce:=o.turnsOnce
 turnsLive:=by
  intro j u hj;by_cases hij:i=j
  ·subst hij;exact o.turnsLive i s hs
  ·exact o.turnsLive j u (by rw [show ((g.cT i t).bZ i t.aH).slots=g.slots.set i (some t) from rfl,List.getElem?_set_ne hij] at hj;exact hj)
 few:=o.few
 many:=o.many
 cap:=o.cap
 fresh:=o.fresh
 now:=o.now
theorem Ga.Ok.xC {T:Esc.bA} {N:Nat} {g:Ga} (o:g.Ok T N) (es:Timer.Ents) (h:es.map Prod.fst=g.es.map Prod.fst) (hf:∀ e ∈ es,e.1 < g.n /\ Timer.fG g.now e.2.2):({ g with es:=es }:Ga).Ok T N :=
 ⟨o.pos,o.len,fun i s hs he=>by show i ∈ es.map Prod.fst;rw [h];exact o.timed i s hs he,fun i hs=>by show i ∉ es.map Prod.fst;rw [h];exact o.untimed i hs,by show (es.map Prod.fst).Nodup;rw [h];exact o.once,o.has,o.opn,o.fA,o.ids,o.turns,o.turnsOnce,o.turnsLive,o.few,o.many,o.cap,hf,o.now⟩
theorem Ga.Ok.aC7 {T:Esc.bA} {N:Nat} {g:Ga} (o:g.Ok T N) (i:Nat):({ g with es:=Timer.bI g.es i g.now }:Ga).Ok T N :=
 o.xC _ (Timer.gL ..) (Timer.nX (fun e he=>(o.fresh e he).1) (fun e he=>(o.fresh e he).2))
structure Ga.aMi (g g':Ga):Prop where
 n:g'.n=g.n
 ids:g'.ids=g.ids
 many:g'.many=g.many
 turns:g'.turns=g.turns
 rest:g'.pu.rest=g.pu.rest
 now:g'.now=g.now
theorem wB (s:Se) (b:List UInt8) (room:Int):(s.feed b room).aH=s.aH + s.cE b room:=by
 have h1:=(Ses.pV s b room).2.1;unfold Ses.St.aH Ses.St.feed;simp only [lla,List.length_take];omega
theorem aDz (c t L:Nat) (h:t <= 700 - c + L):Purse.over (c + t) <= L + Purse.over c:=by
 unfold Purse.over;omega
theorem jZ {T:Esc.bA} {N:Nat} {g:Ga} (o:g.Ok T N) (i:Nat) (s:Se) (hs:g.slots[i]? = some (some s)):g.pu.has.getD i 0=s.aH:=by
 rw [List.getD_eq_getElem?_getD,o.nJ i s hs];rfl
section
variable {T:Esc.bA} {N:Nat} {l:Lay} {g:Ga} {w:World}
theorem bE (l:Lay) (g:Ga):(l.heap g).Perm ((l.row g :: l.ht) ++ (l.nA :: l.mW g :: (l.eF g ++ (l.hw ++ l.hs)))):=by
 refine Own.aE _ _ fun x=>?_
 unfold Lay.heap;simp only [List.count_append,List.count_cons];omega
theorem uQ (k : l.Good g) (o : g.Ok T N) (h : Own.Has w (l.heap g)) (id : Int) (b : ByteArray) (hb : b.size ≤ 1000) (i : Nat) (hf : g.find id = some i) (s : Se) (hs : g.slots[i]? = some (some s)) :
  Calls prog 8 #[.pointer (some ⟨l.gb,0,none⟩),.int .i64 id,.string b] w fun e w'=>e = .returned (.int .i64 ((s.cE b.data.toList ((700 - s.aH + g.pu.left:Nat):Int):Nat):Int)) /\
   ∃ l' g',Lay.Good l' g' /\ g'.Ok T N /\ g'.slots=g.slots.set i (some (s.feed b.data.toList ((700 - s.aH + g.pu.left:Nat):Int))) /\ g.aMi g' /\ g'.es=(if s.cE b.data.toList ((700 - s.aH + g.pu.left:Nat):Int)=0 then g.es else Timer.bI g.es i g.now) /\ l'.gb=l.gb /\ Own.aA (l.heap g) (l'.heap g') w w':=by
 obtain ⟨R,hR⟩:∃ R,R=700 - s.aH + g.pu.left:=⟨_,rfl⟩;rw [<- hR];have c3:=cell h 3 _ rfl;have HO:=hhh (lP k h id o.pos);rw [hf] at HO;have hil:i < g.n:=by rw [<- k.len];exact (List.getElem?_eq_some_iff.1 hs).1
 have ha:=o.nJ i s hs;have hip:i < g.pu.has.length:=(List.getElem?_eq_some_iff.1 ha).1;have ho:=o.jK i s hs;have ho2:=ho;rw [List.getElem?_eq_getElem (k.pu.same ▸ hip)] at ho;obtain ⟨bb,h1,h0,h2,hv,a2,a3,a4,a5⟩:=k.slots.dT i s hs;have hsm:=o.fA s (List.mem_of_getElem? hs);have hsmall:R <= 41000:=by have:=k.pu.small;unfold Purse.St.left at hR;omega
 have HL:=hhh (Purse.aF6 (eF h) k.pu i hip (Option.some.inj ho));have hRR:700 - g.pu.has[i]'hip + g.pu.left=R:=by
  rw [List.getElem?_eq_getElem hip] at ha;rw [Option.some.inj ha,hR]
 rw [hRR] at HL;have HF:=hhh (fun W (hW:Own.Has W h0)=>Ses.aHz a3 hW b (by omega) (R:Int));have H0:=hhh (fA h h1 h0 h2 a2);have HV:=hhh hv;obtain ⟨s',hs'⟩:∃ s',s'=s.feed b.data.toList (R:Int):=⟨_,rfl⟩;have hs'm:s'.Good T N:=by rw [hs'];exact hsm.feed _ _
 have hfit:Purse.over s'.aH <= g.pu.left + Purse.over (g.pu.has.getD i 0):=by
  rw [jZ o i s hs,hs',wB];refine aDz _ _ _ ?_;have h9:=(Ses.pV s b.data.toList (R:Int)).2.2;rw [Int.toNat_natCast] at h9;omega
 have HH:=hhh h;have hcap:=o.cap
 have HC:=hhh (fun (h0':Own.Heap) (is':Ses.Is s' bb h0') W (hW:Own.Has W (({ l with hs:=h1 ++ (h0' ++ h2) }:Lay).heap (g.cT i s'))) =>
  cK (k.cT i s' _ (a4 s' h0' is')) hW i s' (by show (g.slots.set i (some s'))[i]? = _;rw [List.getElem?_set_self (by rw [k.len];exact hil)]) ho2 hs'm hcap hfit)
 have HK:=hhh (o.cT i s s' hs hs'm (by rw [hs'];exact fun h9=>h9));have hone:=o.once;rw [<- hs'] at HF |-;obtain ⟨X,hX⟩:∃ T,T=s.cE b.data.toList (R:Int):=⟨_,rfl⟩;rw [<- hX] at HF |-;have HA:=hhh (ai a2 (ai hil hone));have Hid:=hhh (ai trivial (ai hb k));clear k h hb ho ho2 hsm hsmall hRR hR hs' hs'm hv ha a2 a3 a4 a5 hX hone hip hf hs o hil hfit hcap;go_enter func8,ntmps8;go_wp2_with (fail);refine HO.o.mono ?_;rintro e W1 ⟨rfl,rfl⟩;simp only [kE,HV.o];go_wp2_with (fail);refine HL.o.mono ?_;rintro e W1 ⟨rfl,n1,rfl⟩;go_wp2_with (fail);refine (HF.o _ (H0.o.drewN n1)).mono ?_;rintro e W2 ⟨rfl,h0',is',ht⟩;have t1:Own.aA (l.heap g) (({ l with hs:=h1 ++ (h0' ++ h2) }:Lay).heap (g.cT i s')) (World.drewN _ n1) W2 :=
  Own.aA.focus (HH.o.drewN n1) (dH l g h1 h0 h2 HA.o.1) (fun _=>ht) (dH _ _ h1 h0' h2 rfl)
 go_wp2_with (fail);refine (HC.o h0' is' W2 t1.has).mono ?_;rintro e W3 ⟨⟨v3,rfl⟩,k3,t3⟩;by_cases hT0:X=0
 ·have HX0:=hhh hT0
  have hT1:(X:Int)=0:=by omega
  have hlt:¬ (0:Int) < (X:Int):=by omega
  clear hT0;go_wp2;go_ret;refine ⟨by first | rfl | (rw [hT1];rfl) | exact Own.dL (by omega),_,_,k3,HK.o,rfl,⟨rfl,rfl,rfl,rfl,rfl,rfl⟩,by first | rfl | exact (ifp HX0.o).symm,rfl,?_⟩;exact (((Own.aA.refl HH.o).drewN n1).trans t1).trans t3
 ·have hlt:(0:Int) < (X:Int):=by omega
  have HX0:=hhh hT0;clear hT0;have hk4:=(t3.has.perm (bE _ _)).left;have HT4:=hhh (Timer.nK (es:=g.es) i HA.o.2.2 (by have:=Hid.o.2.2.small;have:=HA.o.2.1;omega) hk4 k3.timer 5 rfl);go_wp2_with (fail);refine HT4.o.mono ?_;rintro e W4 ⟨⟨v4,rfl⟩,ht4,m4,t4⟩;go_wp2;go_ret;refine ⟨rfl,{ l with hs:=h1 ++ (h0' ++ h2),ht:=ht4 },{ (g.cT i s').bZ i s'.aH with es:=Timer.bI g.es i g.now },⟨k3.len,k3.ids,k3.pun,k3.pu,k3.wheel,m4,k3.slots⟩,HK.o.aC7 i,rfl,⟨rfl,rfl,rfl,rfl,rfl,rfl⟩,by first | rfl | exact (ifn HX0.o).symm,rfl,?_⟩
  ·exact ((((Own.aA.refl HH.o).drewN n1).trans t1).trans t3).trans (Own.aA.focus t3.has (bE _ _) (fun _=>t4) (bE _ _))
end
end Gate
end
end Go.Proofs.YtcjflgmcjfcodaaGreat
