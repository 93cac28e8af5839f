/- Texts of the walk, joined. -/
import Derived.Test.YtcjflgmcjfcodaaGreatM37
import Derived.Test.YtcjflgmcjfcodaaGreatM38
import Derived.Test.YtcjflgmcjfcodaaGreatM40
import Derived.Test.YtcjflgmcjfcodaaGreatM42
import Derived.Test.YtcjflgmcjfcodaaGreatM47
import Derived.KernelRfl
set_option maxRecDepth 100000
set_option maxHeartbeats 8000000
namespace Go.Proofs.Tryz end Go.Proofs.Tryz
namespace Go.Proofs.YtcjflgmcjfcodaaGreat
open Go.Proofs.Tryz
section
namespace Ses
open Pip
open Json (Part)
def Told (s:St):Prop:=s.told=true -> right s.setup=true
theorem Told.new:Told St.new:=fun h=>by cases h
theorem aDr {s:St} (h:Told s) (b:List UInt8) (r:Int):Told (s.feed b r):=h
theorem zQ {s:St} (h:Told s) (k:Int):Told (s.write k):=h
theorem tZ (text:Part -> List UInt8) {s:St} (h:Told s):Told (s.once text):=by
 unfold St.once;split
 ·exact h
 ·exact h
 ·unfold St.byte
  simp only;split
  ·exact h
  ·exact h
 ·unfold St.iP
  simp only;split
  ·exact h
  ·rename_i l hi ht _
   split
   ·rename_i h0
    intro _;exact (pY _ h0).2.1
   ·exact h
 ·exact h
theorem aE4 (text:Part -> List UInt8) (may:Option (Int -> Bool)) {s:St} (h:Told s):Told (s.jC text may):=by
 unfold St.jC;split
 ·exact tZ text h
 ·exact tZ text h
theorem rD (text:Part -> List UInt8) (may:Option (Int -> Bool)):∀ (k:Nat) (s:St),Told s -> Told (s.run text may k).1
 | 0,_,h=>h
 | k + 1,s,h=>by
  unfold St.run
  split
  ·exact rD text may k _ (aE4 text may h)
  ·exact h
theorem aDn (text:Part -> List UInt8) (f:Int -> Bool) (hf:∀ a b:Nat,a <= b -> f (b:Int)=true -> f (a:Int)=true) (s:St) (hr:s.ready=true) (h:f (s.aH:Int)=true):f ((s.jC text (some f)).aH:Int)=true:=by
 cases hx:f ((s.once text).aH:Int) with
 | true=>rw [rI text _ s hx];exact hx
 | false =>
  rw [aCt text _ s hx,nZ];refine hf _ _ ?_ h;rw [uT (iV hr)];have:(List.take s.out.length (s.once text).out).length <= s.out.length:=by rw [List.length_take];omega
  simp only at *
  omega
theorem wH (text:Part -> List UInt8) (f:Int -> Bool) (hf:∀ a b:Nat,a <= b -> f (b:Int)=true -> f (a:Int)=true):∀ (k:Nat) (s:St),f (s.aH:Int)=true -> f ((s.run text (some f) k).1.aH:Int)=true
 | 0,_,h=>h
 | k + 1,s,h=>by
  unfold St.run
  split
  ·rename_i hr
   exact wH text f hf k _ (aDn text f hf s hr h)
  ·exact h
def calm (text:Part -> List UInt8) (M:Nat):Nat -> St -> Bool
 | 0,_=>true
 | k + 1,s=>if s.ready=true then decide ((s.once text).aH <= M) && calm text M k (s.once text) else true
theorem rL (text:Part -> List UInt8) (M:Nat) (f:Int -> Bool) (hf:∀ z:Nat,z <= M -> f (z:Int)=true):∀ (k:Nat) (s:St),calm text M k s=true -> s.run text (some f) k=s.run text none k
 | 0,_,_=>rfl
 | k + 1,s,h=>by
  unfold calm at h
  unfold St.run
  split
  ·rename_i hr
   rw [ifp hr] at h
   simp only [Bool.and_eq_true,decide_eq_true_eq] at h
   have e1:s.jC text (some f)=s.once text:=rI text f s (hf _ h.1)
   have e2:s.jC text none=s.once text:=by unfold St.jC refused;rfl
   rw [e1,e2,rL text M f hf k _ h.2]
  ·rfl
def rset:Setup:=⟨1,1,1,0,0⟩
def blanks:List UInt8:=aQ rset ++ List.replicate 56 32
def rst (text:Part -> List UInt8) (b:List UInt8):Nat -> St
 | 0=>fresh b
 | r + 1=>((rst text b r).run text none 16).1
def rok (text:Part -> List UInt8) (b:List UInt8) (n r:Nat):Bool :=
 calm text 700 16 (rst text b r) && ((rst text b r).run text none 16).2 == min 16 (n - 16 * r) && (rst text b r).ready == decide (16 * r < n) && decide ((rst text b r).aH <= 700)
structure Rok (text:Part -> List UInt8) (b:List UInt8) (n r:Nat):Prop where
 calm:calm text 700 16 (rst text b r)=true
 many:((rst text b r).run text none 16).2=min 16 (n - 16 * r)
 ready:(rst text b r).ready=decide (16 * r < n)
 aH:(rst text b r).aH <= 700
def tset:Setup:=⟨1,1,9,0,0⟩
def opens:List UInt8:=(aQ tset ++ (List.replicate 12 32 ++ (91 :: List.replicate 45 32))).take 64
end Ses
end
section
open Go.RowKit
namespace Gate
open Purse (cJ)
def Ga.cA (g:Ga) (i:Nat):Bool :=
 match g.slots[i]? with
 | some (some s)=>s.ready
 | _=>false
def Ga.bV (g:Ga) (j:Nat):List Bool:=(List.range j).map g.cA
def Ga.next (g:Ga):Option Nat:=g.turns.find? g.cA
theorem eN (g:Ga) (j:Nat):(g.bV j).length=j:=by simp [Ga.bV]
theorem iE (g:Ga) (j:Nat):g.bV (j + 1)=g.bV j ++ [g.cA j]:=by simp [Ga.bV,List.range_succ]
theorem nY (g:Ga) (hl:g.slots.length=g.n):(fun y=>(g.bV g.n).getD y false)=g.cA:=by
 funext y;by_cases h:y < g.n
 ·simp [Ga.bV,List.getD_eq_getElem?_getD,h]
 ·rw [List.getD_eq_getElem?_getD,List.getElem?_eq_none (by rw [eN];omega)]
  unfold Ga.cA;rw [List.getElem?_eq_none (by rw [hl];omega)];rfl
theorem tH (w:World):Calls prog 31 #[.pointer none] w fun e w'=>e = .returned (.bool false) /\ w'=w:=by
 go_enter func31,ntmps31;go_wp2;go_ret;exact ⟨rfl,rfl⟩
def BG (b gb:Nat):Nat × Obj:=Own.row b 23 [.pointer (some ⟨gb,0,none⟩)]
def BS (b i:Nat):Nat × Obj:=Own.row b 3 [.int .i64 (i:Int)]
def cl (bg bs:Nat) (l:Lay) (g:Ga) (i:Nat) (p:Purse.St):Own.Heap:=BG bg l.gb :: BS bs i :: l.row g :: Purse.heap p l.pb l.hb l.ob
theorem fW (bg bs : Nat) (l : Lay) (g : Ga) (i : Nat) (p : Purse.St) (f : p.Fits) (W : World) (z : Nat) (hW : Own.Has W (cl bg bs l g i p)) (hi : i < p.has.length) (ho : p.opn[i]'(f.same ▸ hi) = true) (hz : z ≤ 1000000000000) :
  Calls prog 35 #[.int .i64 (z:Int),.pointer (some ⟨bg,0,none⟩),.pointer (some ⟨bs,0,none⟩)] W fun e w'=>e = .returned (.bool (p.lets i z)) /\ Own.aA (cl bg bs l g i p) (cl bg bs l g i (p.set i z)) W w':=by
 have c0:=hW.cell bg 23 _ mcs 0 _ rfl;have c1:=hW.cell bs 3 [.int .i64 (i:Int)] (mcm _ mcs) 0 _ rfl;have c2:W.cell? ⟨l.gb,3,none⟩=some (.pointer (some ⟨l.pb,0,none⟩)):=hW.cell l.gb 53 _ (mcm _ (mcm _ mcs)) 3 _ rfl;have hP:Own.Has W (Purse.heap p l.pb l.hb l.ob):=Own.Has.right (a:=[_,_,_]) hW;have HS:=hhh (fun m=>Purse.xD (hP.drewN m) f i z hi hz ho);have HW:=hhh hW;obtain ⟨Z,hZ⟩:∃ Z:Int,Z=(z:Int):=⟨_,rfl⟩;rw [<- hZ] at HS |-;clear hW hP hZ hz ho;go_enter func35,ntmps35;go_wp2;go_region_with (refine (HS.o _).mono ?_;rintro e W1 ⟨rfl,ht⟩)
 all_goals go_wp2
 all_goals go_ret
 all_goals exact ⟨rfl,((Own.aA.refl HW.o).drewN _).trans (Own.aA.behind (r:=[_,_,_]) ht (HW.o.drewN _))⟩
theorem pN (p:Purse.St) (i:Nat) (hi:i < p.has.length):p.put i (p.has[i]'hi)=p:=by
 unfold Purse.St.put;rw [List.set_getElem_self]
def Way (bg bs:Nat) (l:Lay) (g:Ga) (i:Nat) (d:Own.Heap):Prop:=∃ v,d=cl bg bs l g i (g.pu.put i v) /\ (g.pu.put i v).Fits /\ ∀ z,(g.pu.put i v).lets i z=g.pu.lets i z
theorem kP (p:Purse.St) (i v x:Nat):(p.put i v).put i x=p.put i x:=by
 unfold Purse.St.put;simp only [List.set_set]
theorem aLj (bg bs : Nat) (l : Lay) (g : Ga) (i : Nat) (hi : i < g.pu.has.length) (hs : g.pu.has.length = g.pu.opn.length) (ho : g.pu.opn[i]'(hs ▸ hi) = true) (W : World) (z : Nat) (d : Own.Heap) (hd : Way bg bs l g i d) (hW : Own.Has W d) (hz : z ≤ 1000000000000) :
  Calls prog 35 #[.int .i64 (z:Int),.pointer (some ⟨bg,0,none⟩),.pointer (some ⟨bs,0,none⟩)] W fun e w'=>e = .returned (.bool (g.pu.lets i z)) /\ ∃ d',Way bg bs l g i d' /\ Own.aA d d' W w':=by
 obtain ⟨v,rfl,f,hl⟩:=hd;have hi2:i < (g.pu.put i v).has.length:=by show i < (g.pu.has.set i v).length;rw [List.length_set];exact hi
 refine (fW bg bs l g i (g.pu.put i v) f W z hW hi2 ho hz).mono ?_;rintro e w' ⟨rfl,t⟩;refine ⟨by rw [hl],_,?_,t⟩
 cases hb:(g.pu.put i v).lets i z with
 | true =>
  have e1:(g.pu.put i v).set i z=g.pu.put i z:=by unfold Purse.St.set;rw [ifp hb,kP]
  rw [e1];have e2:=Purse.aIi (g.pu.put i v) f i z;rw [kP] at e2;refine ⟨z,rfl,?_,fun y=>by rw [e2 y hi2 hb,hl]⟩;have:=f.put i z hi2 (by unfold Purse.St.lets at hb;simpa using hb)
  rwa [kP] at this
 | false =>
  have e1:(g.pu.put i v).set i z=g.pu.put i v:=by unfold Purse.St.set;rw [ifn (by rw [hb];decide)]
  rw [e1];exact ⟨v,rfl,f,hl⟩
theorem aFj (p:Purse.St) (i a b:Nat) (h:a <= b) (hb:p.lets i b=true):p.lets i a=true:=by
 unfold Purse.St.lets at *
 simp only [decide_eq_true_eq] at *
 have:Purse.over a <= Purse.over b:=by unfold Purse.over;omega
 omega
theorem aG9 (p:Purse.St) (i:Nat):p.lets i (p.has.getD i 0)=true:=by
 unfold Purse.St.lets;simp only [decide_eq_true_eq];omega
theorem yZ (p:Purse.St) (i z:Nat) (h:z <= 700):p.lets i z=true:=by
 unfold Purse.St.lets Purse.over;simp only [decide_eq_true_eq];omega
section
variable {l:Lay} {g:Ga}
theorem kQ (l:Lay) (g:Ga) (ho:Own.Heap) (x:Nat × Obj):(ho ++ (x :: l.heap g)).Perm ((l.hw ++ ho) ++ (x :: l.row g :: l.nA :: l.mW g :: (l.eF g ++ (l.ht ++ l.hs)))):=by
 refine Own.aE _ _ fun y=>?_
 unfold Lay.heap;simp only [List.count_append,List.count_cons];omega
theorem qL (l:Lay) (g:Ga) (bg bs i:Nat) (h1 h0 h2:Own.Heap) (e:l.hs=h1 ++ (h0 ++ h2)):(BS bs i :: BG bg l.gb :: l.heap g).Perm ((h0 ++ cl bg bs l g i g.pu) ++ (l.nA :: l.mW g :: (l.hw ++ (l.ht ++ (h1 ++ h2))))):=by
 refine Own.aE _ _ fun y=>?_
 unfold Lay.heap cl Lay.eF;rw [e];simp only [List.count_append,List.count_cons];omega
end
end Gate
end
section
open Go.RowKit
namespace Gate
open Purse (cJ ints)
theorem Ga.Ok.mono {T:Esc.bA} {N M:Nat} {g:Ga} (o:g.Ok T N) (h:N <= M) (hM:M <= 2600):g.Ok T M :=
 ⟨o.pos,o.len,o.timed,o.untimed,o.once,o.has,o.opn,fun s hs=>(o.fA s hs).mono h,o.ids,o.turns,o.turnsOnce,o.turnsLive,o.few,o.many,hM,o.fresh,o.now⟩
theorem Ga.Ok.aLk {T:Esc.bA} {N:Nat} {g:Ga} (o:g.Ok T N) (i:Nat) (s:Se) (hs:g.slots[i]? = some (some s)):({ g with turns:=g.turns.erase i ++ [i] }:Ga).Ok T N where
 pos:=o.pos
 len:=o.len
 timed:=o.timed
 untimed:=o.untimed
 once:=o.once
 has:=o.has
 opn:=o.opn
 fA:=o.fA
 ids:=o.ids
 turns:=by
  intro j hj;show j ∉ g.turns.erase i ++ [i];rw [List.mem_append];rintro (h1 | h1)
  ·exact o.turns j hj (List.mem_of_mem_erase h1)
  ·simp at h1
   subst h1;rw [hs] at hj
   cases hj
 turnsOnce:=by
  show (g.turns.erase i ++ [i]).Nodup;refine List.nodup_append.2 ⟨o.turnsOnce.erase i,by simp,fun x hx y hy e=>?_⟩;simp at hy;subst hy;subst e;exact o.turnsOnce.not_mem_erase hx
 turnsLive:=by
  intro j u hj;show j ∈ g.turns.erase i ++ [i];rw [List.mem_append];by_cases hij:j=i
  ·exact .inr (by simp [hij])
  ·exact .inl ((List.mem_erase_of_ne hij).2 (o.turnsLive j u hj))
 few:=by
  show (g.turns.erase i ++ [i]).length <= 500;rw [lla,List.length_erase_of_mem (o.turnsLive i s hs)];have:=o.few;simp only [List.length_singleton];omega
 many:=o.many
 cap:=o.cap
 fresh:=o.fresh
 now:=o.now
def mF (g:Ga) (i:Nat) (s t:Se):Timer.Ents:=if (t.told && !s.told)=true then Timer.eJ g.es i t.setup.limit else g.es
theorem aD7 (bg bs:Nat) (l:Lay) (g:Ga) (i:Nat) (hi:i < g.pu.has.length) (f:g.pu.Fits):Way bg bs l g i (cl bg bs l g i g.pu) :=
 ⟨g.pu.has[i]'hi,by rw [pN g.pu i hi],by rw [pN g.pu i hi];exact f,fun z=>by rw [pN g.pu i hi]⟩
section
variable {T:Esc.bA} {N:Nat} {l:Lay} {g:Ga} {w:World}
theorem aHu (k : l.Good g) (o : g.Ok T N) (h : Own.Has w (l.heap g)) (hnext : g.next = none) :
  Calls prog 9 #[.pointer (some ⟨l.gb,0,none⟩)] w fun e w'=>e = .returned (.tuple #[.int .i64 (-1),.int .i64 0]) /\ Own.aA (l.heap g) (l.heap g) w w':=by
 have h8:=k.small;have TB:=hhh (show Own.aA (l.heap g) (BG w.heap.size l.gb :: l.heap g) w (w.alloc (.cells #[.pointer (some ⟨l.gb,0,none⟩)] 23)) from (Own.aA.refl h).aP w.heap.size rfl 23 [.pointer (some ⟨l.gb,0,none⟩)]);have c0:∀ o,(w.alloc o).cell? ⟨l.gb,0,none⟩=some (.slice (some ⟨l.sb,0,none⟩) g.n g.n):=fun x=>cell (((Own.aA.refl h).aD x).has) 0 _ rfl
 obtain ⟨i0,hi,hz0,hz1,hz2⟩:=info_parts (P:=prog) (e:=4) (z:=.bool false) (size:=1) (bytes:=1) (by kernel_rfl);have Hi:=hhh (ai hi (ai hz0 (ai hz1 hz2)));have HH:=hhh h;have K:=hhh k;have OO:=hhh o;have HNx:=hhh hnext;skip;clear hi hz0 hz1 hz2 k o h hnext;go_enter func9,ntmps9;go_wp2;go_loopw [4,22] (fun q x wr=>∃ (j m:Nat) (ad:Option Addr) (c:Nat) (ho:Own.Heap),q = .slice ad m c /\ x = .int .i64 j /\ j <= g.n /\ m=j /\ Own.Slc 4 (cJ (g.bV j)) (.slice ad m c) ho /\ Own.aA (l.heap g) (ho ++ (BG w.heap.size l.gb :: l.heap g)) w wr) (fun _ x _=>g.n - (intOf x).toNat)
 case atStart=>exact ⟨0,0,none,0,[],rfl,rfl,by omega,rfl,Own.Slc.bare none rfl,TB.o⟩
 case round =>
  obtain ⟨j,m,ad,c,ho,rfl,rfl,hj,hm,hs,ht⟩:=hrel;subst hm;have HSl:=hhh hs;have HT:=hhh ht;have hG:Own.Has wr (l.heap g):=(ht.has.right).right (a:=[_]);clear hs;by_cases hjn:m < g.n
  ·have hjv:m < l.vs.length:=by rw [K.o.wJ];exact hjn
   have hjs:m < g.slots.length:=by rw [K.o.len];exact hjn
   have hI:(m:Int) < (g.n:Int):=by omega
   have cs:=kJ hG m _ (List.getElem?_eq_getElem hjv);have hm8:m <= 8:=by omega
   have HG:=hhh hG;have hlen:=hhh (show (cJ (g.bV m)).length=m by rw [Wheel.fH,eN])
   cases hs:g.slots[m]'hjs with
   | none =>
    have hs':g.slots[m]? = some none:=by rw [List.getElem?_eq_getElem hjs,hs]
    obtain ⟨hv,_⟩:=K.o.slots.mK m hs';rw [List.getElem?_eq_getElem hjv] at hv;rw [Option.some.inj hv] at cs;have HL:=hhh (show g.bV (m + 1)=g.bV m ++ [false] by rw [iE];unfold Ga.cA;rw [hs']);clear hs hs' hv hG ht;go_wp2_with (fail);refine (tH wr).mono ?_;rintro e W1 ⟨rfl,rfl⟩;go_wp2_with (at_builtin;go_loud (refine Own.aX rfl _ _ 67 rfl 4 i0 (.bool false) 1 underlying67 Hi.o.1 Hi.o.2.1 Hi.o.2.2.1 Hi.o.2.2.2 rfl (.slice ad m c) (cJ (g.bV m)) m hlen.o ho (BG w.heap.size l.gb :: l.heap g) rfl HSl.o HT.o.has (.bool false) rfl rfl ?c1 ?c2 ?_))
    case c1=>simp only [maxLen];omega
    case c2=>omega
    intro ad' c' h' w1 hs' ht';go_wp2;go_roundw
    case rel =>
     refine ⟨m + 1,m + 1,ad',c',h',rfl,by go_num,by omega,rfl,?_,HT.o.trans ht'⟩;rw [HL.o,show cJ (g.bV m ++ [false])=cJ (g.bV m) ++ [.bool false] by simp [cJ]];exact hs'
    case measure=>simp [intOf];omega
   | some s =>
    have hs':g.slots[m]? = some (some s):=by rw [List.getElem?_eq_getElem hjs,hs]
    obtain ⟨b,k1,k0,k2,hv,e2,e3,_,_⟩:=K.o.slots.dT m s hs';rw [List.getElem?_eq_getElem hjv] at hv;rw [Option.some.inj hv] at cs;have HRd:=hhh (Ses.nG e3 (fA hG k1 k0 k2 e2));obtain ⟨RB,hRB⟩:∃ RB,RB=s.ready:=⟨_,rfl⟩;have HL:=hhh (show g.bV (m + 1)=g.bV m ++ [RB] by rw [iE];unfold Ga.cA;rw [hs',hRB]);rw [<- hRB] at HRd;clear hs hs' hv hG ht hRB e2 e3;go_wp2_with (fail);refine HRd.o.mono ?_;rintro e W1 ⟨rfl,rfl⟩;go_wp2_with (at_builtin;go_loud (refine Own.aX rfl _ _ 67 rfl 4 i0 (.bool false) 1 underlying67 Hi.o.1 Hi.o.2.1 Hi.o.2.2.1 Hi.o.2.2.2 rfl (.slice ad m c) (cJ (g.bV m)) m hlen.o ho (BG w.heap.size l.gb :: l.heap g) rfl HSl.o HT.o.has (.bool RB) rfl rfl ?c1 ?c2 ?_))
    case c1=>simp only [maxLen];omega
    case c2=>omega
    intro ad' c' h' w1 hs' ht';go_wp2;go_roundw
    case rel =>
     refine ⟨m + 1,m + 1,ad',c',h',rfl,by go_num,by omega,rfl,?_,HT.o.trans ht'⟩;rw [HL.o,show cJ (g.bV m ++ [RB])=cJ (g.bV m) ++ [.bool RB] by simp [cJ]];exact hs'
    case measure=>simp [intOf];omega
  ·obtain rfl:m=g.n:=by omega
   have hcb:wr.cell? ⟨w.heap.size,0,none⟩=some (.pointer (some ⟨l.gb,0,none⟩)):=(ht.has.right).cell w.heap.size 23 [.pointer (some ⟨l.gb,0,none⟩)] mcs 0 _ rfl;have hc4:wr.cell? ⟨l.gb,4,none⟩=some (.pointer (some ⟨l.wb,0,none⟩)):=cell hG 4 _ rfl;have HNt:=Wheel.wF K.o.wheel HSl.o ((ht.has.perm (kQ l g ho _)).left) (by have:=OO.o.few;omega) (by rw [eN];omega);rw [nY g K.o.len,show g.turns.find? g.cA=none from HNx.o] at HNt;have HNt:=hhh HNt;clear hG ht;go_wp2_with (fail);refine HNt.o.mono ?_;rintro e W1 ⟨rfl,rfl⟩;have TE:=hhh (fun x=>(show Own.aA (l.heap g) (l.heap g) w (W1.alloc x) from Own.aA.forget (b:=[BG w.heap.size l.gb]) (Own.aA.forget (b:=ho) (HT.o.aD x))));go_wp2;go_ret2;exact ⟨rfl,TE.o _⟩
theorem aI0 (k : l.Good g) (o : g.Ok T N) (hN : N ≤ 2500) (h : Own.Has w (l.heap g)) (hB : ∀ x ∈ Own.blocks (l.heap g), Esc.tabsEnd ≤ x) (hT : Esc.bP T w) (i : Nat) (hnext : g.next = some i) (s : Se) (hs : g.slots[i]? = some (some s)) (ht : Ses.Told s) :
  Calls prog 9 #[.pointer (some ⟨l.gb,0,none⟩)] w fun e w'=>e = .returned (.tuple #[.int .i64 (g.ids.getD i 0:Nat),.int .i64 ((s.run (Pip.aO T) (some fun z=>g.pu.lets i z.toNat) 16).2:Nat)]) /\
   ∃ l' g',Lay.Good l' g' /\ g'.Ok T (N + 16) /\ g'.slots=g.slots.set i (some (s.run (Pip.aO T) (some fun z=>g.pu.lets i z.toNat) 16).1) /\ g'.n=g.n /\ g'.ids=g.ids /\ g'.many=g.many /\ g'.pu.rest=g.pu.rest /\ g'.now=g.now /\ g'.turns=g.turns.erase i ++ [i] /\ g'.es=mF g i s (s.run (Pip.aO T) (some fun z=>g.pu.lets i z.toNat) 16).1 /\ l'.gb=l.gb /\ Own.aA (l.heap g) (l'.heap g') w w':=by
 have h8:=k.small;have TB:=hhh (show Own.aA (l.heap g) (BG w.heap.size l.gb :: l.heap g) w (w.alloc (.cells #[.pointer (some ⟨l.gb,0,none⟩)] 23)) from (Own.aA.refl h).aP w.heap.size rfl 23 [.pointer (some ⟨l.gb,0,none⟩)]);have c0:∀ o,(w.alloc o).cell? ⟨l.gb,0,none⟩=some (.slice (some ⟨l.sb,0,none⟩) g.n g.n):=fun x=>cell (((Own.aA.refl h).aD x).has) 0 _ rfl
 obtain ⟨i0,hi,hz0,hz1,hz2⟩:=info_parts (P:=prog) (e:=4) (z:=.bool false) (size:=1) (bytes:=1) (by kernel_rfl);have Hi:=hhh (ai hi (ai hz0 (ai hz1 hz2)));have HH:=hhh h;have K:=hhh k;have OO:=hhh o;have HNx:=hhh hnext;obtain ⟨RR,hRR⟩:∃ RR,RR=s.run (Pip.aO T) (some fun z=>g.pu.lets i z.toNat) 16:=⟨_,rfl⟩;have HRR:=hhh hRR;rw [<- hRR];have HB:=hhh (ai hB (ai hT hN));have HSs:=hhh (ai hs ht)
 have HSe:=hhh (show s.ended=false by
  have h1:g.cA i=true:=List.find?_some hnext;unfold Ga.cA at h1;rw [hs] at h1;have h2:s.ready=true:=h1;unfold Ses.St.ready at h2;simp only [Bool.and_eq_true,Bool.not_eq_true'] at h2
  exact h2.1.1)
 clear hi hz0 hz1 hz2 k o h hnext hB hT hN hs ht hRR;go_enter func9,ntmps9;go_wp2;go_loopw [4,22] (fun q x wr=>∃ (j m:Nat) (ad:Option Addr) (c:Nat) (ho:Own.Heap),q = .slice ad m c /\ x = .int .i64 j /\ j <= g.n /\ m=j /\ Own.Slc 4 (cJ (g.bV j)) (.slice ad m c) ho /\ Own.aA (l.heap g) (ho ++ (BG w.heap.size l.gb :: l.heap g)) w wr) (fun _ x _=>g.n - (intOf x).toNat)
 case atStart=>exact ⟨0,0,none,0,[],rfl,rfl,by omega,rfl,Own.Slc.bare none rfl,TB.o⟩
 case round =>
  obtain ⟨j,m,ad,c,ho,rfl,rfl,hj,hm,hs,ht⟩:=hrel;subst hm;have HSl:=hhh hs;have HT:=hhh ht;have hG:Own.Has wr (l.heap g):=(ht.has.right).right (a:=[_]);clear hs;by_cases hjn:m < g.n
  ·have hjv:m < l.vs.length:=by rw [K.o.wJ];exact hjn
   have hjs:m < g.slots.length:=by rw [K.o.len];exact hjn
   have hI:(m:Int) < (g.n:Int):=by omega
   have cs:=kJ hG m _ (List.getElem?_eq_getElem hjv);have hm8:m <= 8:=by omega
   have HG:=hhh hG;have hlen:=hhh (show (cJ (g.bV m)).length=m by rw [Wheel.fH,eN])
   cases hs:g.slots[m]'hjs with
   | none =>
    have hs':g.slots[m]? = some none:=by rw [List.getElem?_eq_getElem hjs,hs]
    obtain ⟨hv,_⟩:=K.o.slots.mK m hs';rw [List.getElem?_eq_getElem hjv] at hv;rw [Option.some.inj hv] at cs;have HL:=hhh (show g.bV (m + 1)=g.bV m ++ [false] by rw [iE];unfold Ga.cA;rw [hs']);clear hs hs' hv hG ht;go_wp2_with (fail);refine (tH wr).mono ?_;rintro e W1 ⟨rfl,rfl⟩;go_wp2_with (at_builtin;go_loud (refine Own.aX rfl _ _ 67 rfl 4 i0 (.bool false) 1 underlying67 Hi.o.1 Hi.o.2.1 Hi.o.2.2.1 Hi.o.2.2.2 rfl (.slice ad m c) (cJ (g.bV m)) m hlen.o ho (BG w.heap.size l.gb :: l.heap g) rfl HSl.o HT.o.has (.bool false) rfl rfl ?c1 ?c2 ?_))
    case c1=>simp only [maxLen];omega
    case c2=>omega
    intro ad' c' h' w1 hs' ht';go_wp2;go_roundw
    case rel =>
     refine ⟨m + 1,m + 1,ad',c',h',rfl,by go_num,by omega,rfl,?_,HT.o.trans ht'⟩;rw [HL.o,show cJ (g.bV m ++ [false])=cJ (g.bV m) ++ [.bool false] by simp [cJ]];exact hs'
    case measure=>simp [intOf];omega
   | some s =>
    have hs':g.slots[m]? = some (some s):=by rw [List.getElem?_eq_getElem hjs,hs]
    obtain ⟨b,k1,k0,k2,hv,e2,e3,_,_⟩:=K.o.slots.dT m s hs';rw [List.getElem?_eq_getElem hjv] at hv;rw [Option.some.inj hv] at cs;have HRd:=hhh (Ses.nG e3 (fA hG k1 k0 k2 e2));obtain ⟨RB,hRB⟩:∃ RB,RB=s.ready:=⟨_,rfl⟩;have HL:=hhh (show g.bV (m + 1)=g.bV m ++ [RB] by rw [iE];unfold Ga.cA;rw [hs',hRB]);rw [<- hRB] at HRd;clear hs hs' hv hG ht hRB e2 e3;go_wp2_with (fail);refine HRd.o.mono ?_;rintro e W1 ⟨rfl,rfl⟩;go_wp2_with (at_builtin;go_loud (refine Own.aX rfl _ _ 67 rfl 4 i0 (.bool false) 1 underlying67 Hi.o.1 Hi.o.2.1 Hi.o.2.2.1 Hi.o.2.2.2 rfl (.slice ad m c) (cJ (g.bV m)) m hlen.o ho (BG w.heap.size l.gb :: l.heap g) rfl HSl.o HT.o.has (.bool RB) rfl rfl ?c1 ?c2 ?_))
    case c1=>simp only [maxLen];omega
    case c2=>omega
    intro ad' c' h' w1 hs' ht';go_wp2;go_roundw
    case rel =>
     refine ⟨m + 1,m + 1,ad',c',h',rfl,by go_num,by omega,rfl,?_,HT.o.trans ht'⟩;rw [HL.o,show cJ (g.bV m ++ [RB])=cJ (g.bV m) ++ [.bool RB] by simp [cJ]];exact hs'
    case measure=>simp [intOf];omega
  ·obtain rfl:m=g.n:=by omega
   have hcb:wr.cell? ⟨w.heap.size,0,none⟩=some (.pointer (some ⟨l.gb,0,none⟩)):=(ht.has.right).cell w.heap.size 23 [.pointer (some ⟨l.gb,0,none⟩)] mcs 0 _ rfl;have hc4:wr.cell? ⟨l.gb,4,none⟩=some (.pointer (some ⟨l.wb,0,none⟩)):=cell hG 4 _ rfl;have HNt:=Wheel.wF K.o.wheel HSl.o ((ht.has.perm (kQ l g ho _)).left) (by have:=OO.o.few;omega) (by rw [eN];omega);rw [nY g K.o.len,show g.turns.find? g.cA=some i from HNx.o] at HNt;have HNt:=hhh HNt;clear hG ht;go_wp2_with (fail);refine HNt.o.mono ?_;rintro e W1 ⟨rfl,hw1,wi1,t1⟩;have T1:=hhh (show Own.aA (l.heap g) ((BG w.heap.size l.gb) :: ({ l with hw:=hw1 }:Lay).heap ({ g with turns:=g.turns.erase i ++ [i] }:Ga)) w W1 from Own.aA.forget (b:=ho) (HT.o.trans (Own.aA.focus HT.o.has (kQ l g ho _) (fun _=>t1) (kQ ({ l with hw:=hw1 }:Lay) ({ g with turns:=g.turns.erase i ++ [i] }:Ga) ho _))));have WI:=hhh wi1;have HIL:=hhh (show i < g.n by rw [<- K.o.len];exact (List.getElem?_eq_some_iff.1 HSs.o.1).1);have HID:=hhh (show i < g.ids.length by rw [K.o.ids];exact HIL.o);have HIV:=hhh (show i < l.vs.length by rw [K.o.wJ];exact HIL.o);obtain ⟨b,k1,h0,k2,hv,a2,a3,a4,_⟩:=K.o.slots.dT i s HSs.o.1;have HA:=hhh (ai a2 (ai a3 a4));have Hv:=hhh hv;have TS:=hhh (show Own.aA (l.heap g) ((BS W1.heap.size i) :: (BG w.heap.size l.gb) :: ({ l with hw:=hw1 }:Lay).heap ({ g with turns:=g.turns.erase i ++ [i] }:Ga)) w (W1.alloc (.cells #[.int .i64 (i:Int)] 3)) from T1.o.aP W1.heap.size rfl 3 [.int .i64 (i:Int)]);have hI:(i:Int) < (g.n:Int):=by have:=HIL.o;omega
   have hao:=fun x=>(T1.o.aD x).has
   have d0:∀ x,(W1.alloc x).cell? ⟨w.heap.size,0,none⟩=some (.pointer (some ⟨l.gb,0,none⟩)):=fun x=>(hao x).cell w.heap.size 23 [.pointer (some ⟨l.gb,0,none⟩)] mcs 0 _ rfl
   have d1:∀ x,(W1.alloc x).cell? ⟨l.gb,0,none⟩=some (.slice (some ⟨l.sb,0,none⟩) g.n g.n):=fun x=>cell ((hao x).right (a:=[_])) 0 _ rfl
   have d2:∀ x,(W1.alloc x).cell? ⟨l.sb,i,none⟩=some (.pointer (some ⟨b,0,none⟩)):=fun x=>kJ ((hao x).right (a:=[_])) i _ hv
   obtain ⟨tb,htb⟩:∃ tb,tb=s.told:=⟨_,rfl⟩;have P1:=hhh (qL ({ l with hw:=hw1 }:Lay) ({ g with turns:=g.turns.erase i ++ [i] }:Ga) w.heap.size W1.heap.size i k1 h0 k2 a2);have P1b:=hhh (show ((BS W1.heap.size i) :: (BG w.heap.size l.gb) :: ({ l with hw:=hw1 }:Lay).heap ({ g with turns:=g.turns.erase i ++ [i] }:Ga)).Perm (h0 ++ (cl w.heap.size W1.heap.size ({ l with hw:=hw1 }:Lay) ({ g with turns:=g.turns.erase i ++ [i] }:Ga) i g.pu ++ (({ l with hw:=hw1 }:Lay).nA :: ({ l with hw:=hw1 }:Lay).mW ({ g with turns:=g.turns.erase i ++ [i] }:Ga) :: (({ l with hw:=hw1 }:Lay).hw ++ (({ l with hw:=hw1 }:Lay).ht ++ (k1 ++ k2)))))) from P1.o.trans (List.Perm.of_eq (List.append_assoc _ _ _)));have HSt:=fun m=>Ses.tR a3 ((TS.o.has.drewN m).perm P1b.o).left
   simp only [Pip.Setup.val,<- htb] at HSt;have HSt:=hhh HSt;have HTb:=hhh htb;clear wi1 t1 hao hv a2 a3 a4 htb hcb hc4 HNt;go_wp2;go_quiet (fail);rename_i nq;go_wp2_with (fail);refine (HSt.o _).mono ?_;rintro e W3 ⟨rfl,t3⟩;have T3:=hhh ((TS.o.drewN nq).trans (Own.aA.focus (TS.o.has.drewN nq) P1b.o (fun _=>t3) P1b.o));have hip:i < g.pu.has.length:=by rw [K.o.pun];exact HIL.o
   have ho2:g.pu.opn[i]'(K.o.pu.same ▸ hip)=true:=by
    have h9:=OO.o.jK i s HSs.o.1;rw [List.getElem?_eq_getElem (K.o.pu.same ▸ hip)] at h9;exact Option.some.inj h9
   have hW0:Way w.heap.size W1.heap.size ({ l with hw:=hw1 }:Lay) ({ g with turns:=g.turns.erase i ++ [i] }:Ga) i (cl w.heap.size W1.heap.size ({ l with hw:=hw1 }:Lay) ({ g with turns:=g.turns.erase i ++ [i] }:Ga) i g.pu):=aD7 _ _ _ _ i hip K.o.pu;have HRn:=fun x=>Ses.aGs (T:=T) (n:=N) (Inv:=Way w.heap.size W1.heap.size ({ l with hw:=hw1 }:Lay) ({ g with turns:=g.turns.erase i ++ [i] }:Ga) i) hW0 HA.o.2.1 (((T3.o.aD x).has.perm P1.o).left) (OO.o.fA s (List.mem_of_getElem? HSs.o.1)) HB.o.2.2
    (fun y hy=>(T3.o.aD x).least HB.o.1 HB.o.2.1.size y (((P1.o.map Prod.fst).mem_iff).2 (by rw [List.map_append,List.mem_append];exact .inl hy)))
    (HB.o.2.1.of ((T3.o.aD x).below HB.o.1 HB.o.2.1.size)) (.pointer (some ⟨w.heap.size,0,none⟩)) (.pointer (some ⟨W1.heap.size,0,none⟩)) (fun z=>g.pu.lets i z.toNat)
    (fun W z d hd hW hz=>aLj w.heap.size W1.heap.size ({ l with hw:=hw1 }:Lay) ({ g with turns:=g.turns.erase i ++ [i] }:Ga) i hip K.o.pu.same ho2 W z d hd hW hz)
   simp only [<- HRR.o] at HRn;have HRn:=hhh HRn;clear t3 HSt d0 d1 d2 hW0 ho2;go_wp2_with (fail);refine (HRn.o _).mono ?_;rintro e W5 ⟨rfl,h0',i5,c5,⟨v,rfl,fv,lv⟩,t5⟩;have T5:=(T3.o.aD _).trans (Own.aA.focus (T3.o.aD _).has P1.o (fun _=>t5) (qL ({ l with hw:=hw1,hs:=k1 ++ (h0' ++ k2) }:Lay) ({ g with turns:=g.turns.erase i ++ [i],slots:=g.slots.set i (some RR.1),pu:=g.pu.put i v }:Ga) w.heap.size W1.heap.size i k1 h0' k2 rfl));have T5:=hhh (show Own.aA (l.heap g) ((BS W1.heap.size i) :: (BG w.heap.size l.gb) :: ({ l with hw:=hw1,hs:=k1 ++ (h0' ++ k2) }:Lay).heap ({ g with turns:=g.turns.erase i ++ [i],slots:=g.slots.set i (some RR.1),pu:=g.pu.put i v }:Ga)) w W5 from T5);have I5:=hhh i5;have HGd:=hhh (show RR.1.Good T (N + 16) by rw [HRR.o];exact Ses.rR _ 16 N s (OO.o.fA s (List.mem_of_getElem? HSs.o.1)) (by have:=HB.o.2.2;omega));have hfit:(g.pu.put i v).lets i RR.1.aH=true:=by
    rw [lv,HRR.o];refine Ses.wH (Pip.aO T) (fun z=>g.pu.lets i z.toNat) (fun a b hab hb=>aFj g.pu i a b hab hb) 16 s ?_;show g.pu.lets i s.aH=true;have:=aG9 g.pu i
    rwa [jZ OO.o i s HSs.o.1] at this
   have FV:=hhh (ai fv (show Purse.over RR.1.aH <= (g.pu.put i v).left + Purse.over ((g.pu.put i v).has.getD i 0) by unfold Purse.St.lets at hfit;simpa using hfit));have SL:=hhh (HA.o.2.2 RR.1 h0' i5);have HTo:=hhh (show Ses.Told RR.1 by rw [HRR.o];exact Ses.rD _ _ 16 s HSs.o.2);have OKR:=hhh (((OO.o.mono (Nat.le_add_right N 16) (by have:=HB.o.2.2;omega)).aLk i s HSs.o.1).cT i s RR.1 HSs.o.1 HGd.o (fun _=>HSe.o));have P2:=hhh (show ((BS W1.heap.size i) :: (BG w.heap.size l.gb) :: ({ l with hw:=hw1,hs:=k1 ++ (h0' ++ k2) }:Lay).heap ({ g with turns:=g.turns.erase i ++ [i],slots:=g.slots.set i (some RR.1),pu:=g.pu.put i v }:Ga)).Perm (h0' ++ (cl w.heap.size W1.heap.size ({ l with hw:=hw1,hs:=k1 ++ (h0' ++ k2) }:Lay) ({ g with turns:=g.turns.erase i ++ [i],slots:=g.slots.set i (some RR.1),pu:=g.pu.put i v }:Ga) i (g.pu.put i v) ++ (({ l with hw:=hw1,hs:=k1 ++ (h0' ++ k2) }:Lay).nA :: ({ l with hw:=hw1,hs:=k1 ++ (h0' ++ k2) }:Lay).mW ({ g with turns:=g.turns.erase i ++ [i],slots:=g.slots.set i (some RR.1),pu:=g.pu.put i v }:Ga) :: (({ l with hw:=hw1,hs:=k1 ++ (h0' ++ k2) }:Lay).hw ++ (({ l with hw:=hw1,hs:=k1 ++ (h0' ++ k2) }:Lay).ht ++ (k1 ++ k2)))))) from (qL ({ l with hw:=hw1,hs:=k1 ++ (h0' ++ k2) }:Lay) ({ g with turns:=g.turns.erase i ++ [i],slots:=g.slots.set i (some RR.1),pu:=g.pu.put i v }:Ga) w.heap.size W1.heap.size i k1 h0' k2 rfl).trans (List.Perm.of_eq (List.append_assoc _ _ _)));obtain ⟨tr,htr⟩:∃ tr,tr=RR.1.told:=⟨_,rfl⟩;have HSt2:=Ses.tR i5 (T5.o.has.perm P2.o).left;simp only [Pip.Setup.val,<- htr] at HSt2;have HTr:=hhh htr;have HSt2:=hhh HSt2;clear i5 t5 fv lv hfit htr HRn hip;go_wp2_with (fail);refine HSt2.o.mono ?_;rintro e W6 ⟨rfl,t6⟩;have T6:=hhh (T5.o.trans (Own.aA.focus T5.o.has P2.o (fun _=>t6) P2.o));have T6o:=hhh (fun x=>T6.o.aD x);have d0:∀ x,(W6.alloc x).cell? ⟨w.heap.size,0,none⟩=some (.pointer (some ⟨l.gb,0,none⟩)):=fun x=>(T6o.o x).has.cell w.heap.size 23 [.pointer (some ⟨l.gb,0,none⟩)] (mcm _ mcs) 0 _ rfl
   have d1:∀ x,(W6.alloc x).cell? ⟨W1.heap.size,0,none⟩=some (.int .i64 (i:Int)):=fun x=>(T6o.o x).has.cell W1.heap.size 3 [.int .i64 (i:Int)] mcs 0 _ rfl
   clear t6 HSt2
   cases tr with
   | false =>
    have HC:=hhh (fun (W:World) (hW:Own.Has W (({ l with hw:=hw1,hs:=k1 ++ (h0' ++ k2) }:Lay).heap ({ g with turns:=g.turns.erase i ++ [i],slots:=g.slots.set i (some RR.1),pu:=g.pu.put i v }:Ga)))=>cK (l:=({ l with hw:=hw1,hs:=k1 ++ (h0' ++ k2) }:Lay)) (g:=({ g with turns:=g.turns.erase i ++ [i],slots:=g.slots.set i (some RR.1),pu:=g.pu.put i v }:Ga)) ⟨(List.length_set ..).trans K.o.len,K.o.ids,(List.length_set ..).trans K.o.pun,FV.o.1,WI.o,K.o.timer,SL.o⟩ hW i RR.1 (by show (g.slots.set i (some RR.1))[i]? = _;exact List.getElem?_set_self (by rw [K.o.len];exact HIL.o)) (OO.o.jK i s HSs.o.1) HGd.o (by have:=HB.o.2.2;omega) FV.o.2);go_wp2_with (fail);refine (HC.o _ ((T6o.o _).has.right (a:=[_,_]))).mono ?_;rintro e W9 ⟨⟨v9,rfl⟩,k9,t9⟩;have T9:=hhh ((T6o.o _).trans (Own.aA.behind (r:=[_,_]) t9 (T6o.o _).has));have K9:=hhh k9;have hW9:=T9.o.has.right (a:=[_,_]);have e0:W9.cell? ⟨w.heap.size,0,none⟩=some (.pointer (some ⟨l.gb,0,none⟩)):=T9.o.has.cell w.heap.size 23 [.pointer (some ⟨l.gb,0,none⟩)] (mcm _ mcs) 0 _ rfl;have e1:W9.cell? ⟨W1.heap.size,0,none⟩=some (.int .i64 (i:Int)):=T9.o.has.cell W1.heap.size 3 [.int .i64 (i:Int)] mcs 0 _ rfl;have e2:W9.cell? ⟨l.gb,1,none⟩=some (.slice (some ⟨l.ib,0,none⟩) g.n g.n):=cell hW9 1 _ rfl;have e3:W9.cell? ⟨l.ib,i,none⟩=some (.int .i64 ((g.ids[i]'HID.o:Nat):Int)):=oC hW9 i HID.o;have hI:(i:Int) < (g.n:Int):=by have:=HIL.o;omega
    have HIe:=hhh (show g.ids.getD i 0=g.ids[i]'HID.o by have:=HID.o;simp [List.getD_eq_getElem?_getD,this]);clear k9 t9 hW9 HC;go_wp2;go_quiet (fail);go_wp2;go_ret2;rw [HIe.o];have EE:(({ g with turns:=g.turns.erase i ++ [i],slots:=g.slots.set i (some RR.1),pu:=g.pu.put i v }:Ga)).bZ i RR.1.aH=((({ g with turns:=g.turns.erase i ++ [i] }:Ga).cT i RR.1).bZ i RR.1.aH):=by
     show ({ (({ g with turns:=g.turns.erase i ++ [i],slots:=g.slots.set i (some RR.1),pu:=g.pu.put i v }:Ga)) with pu:=(g.pu.put i v).put i RR.1.aH }:Ga)=_;rw [kP];rfl
    refine ⟨rfl,({ l with hw:=hw1,hs:=k1 ++ (h0' ++ k2) }:Lay),(({ g with turns:=g.turns.erase i ++ [i],slots:=g.slots.set i (some RR.1),pu:=g.pu.put i v }:Ga)).bZ i RR.1.aH,K9.o,by rw [EE];exact OKR.o,rfl,rfl,rfl,rfl,rfl,rfl,rfl,by rw [mF,<- HTr.o];rfl,rfl,?_⟩;exact Own.aA.forget (b:=[_,_]) (T9.o.drewN _)
   | true =>
    cases tb with
    | true =>
     have HC:=hhh (fun (W:World) (hW:Own.Has W (({ l with hw:=hw1,hs:=k1 ++ (h0' ++ k2) }:Lay).heap ({ g with turns:=g.turns.erase i ++ [i],slots:=g.slots.set i (some RR.1),pu:=g.pu.put i v }:Ga)))=>cK (l:=({ l with hw:=hw1,hs:=k1 ++ (h0' ++ k2) }:Lay)) (g:=({ g with turns:=g.turns.erase i ++ [i],slots:=g.slots.set i (some RR.1),pu:=g.pu.put i v }:Ga)) ⟨(List.length_set ..).trans K.o.len,K.o.ids,(List.length_set ..).trans K.o.pun,FV.o.1,WI.o,K.o.timer,SL.o⟩ hW i RR.1 (by show (g.slots.set i (some RR.1))[i]? = _;exact List.getElem?_set_self (by rw [K.o.len];exact HIL.o)) (OO.o.jK i s HSs.o.1) HGd.o (by have:=HB.o.2.2;omega) FV.o.2);go_wp2_with (fail);refine (HC.o _ ((T6o.o _).has.right (a:=[_,_]))).mono ?_;rintro e W9 ⟨⟨v9,rfl⟩,k9,t9⟩;have T9:=hhh ((T6o.o _).trans (Own.aA.behind (r:=[_,_]) t9 (T6o.o _).has));have K9:=hhh k9;have hW9:=T9.o.has.right (a:=[_,_]);have e0:W9.cell? ⟨w.heap.size,0,none⟩=some (.pointer (some ⟨l.gb,0,none⟩)):=T9.o.has.cell w.heap.size 23 [.pointer (some ⟨l.gb,0,none⟩)] (mcm _ mcs) 0 _ rfl;have e1:W9.cell? ⟨W1.heap.size,0,none⟩=some (.int .i64 (i:Int)):=T9.o.has.cell W1.heap.size 3 [.int .i64 (i:Int)] mcs 0 _ rfl;have e2:W9.cell? ⟨l.gb,1,none⟩=some (.slice (some ⟨l.ib,0,none⟩) g.n g.n):=cell hW9 1 _ rfl;have e3:W9.cell? ⟨l.ib,i,none⟩=some (.int .i64 ((g.ids[i]'HID.o:Nat):Int)):=oC hW9 i HID.o;have hI:(i:Int) < (g.n:Int):=by have:=HIL.o;omega
     have HIe:=hhh (show g.ids.getD i 0=g.ids[i]'HID.o by have:=HID.o;simp [List.getD_eq_getElem?_getD,this]);clear k9 t9 hW9 HC;go_wp2;go_quiet (fail);go_wp2;go_ret2;rw [HIe.o];have EE:(({ g with turns:=g.turns.erase i ++ [i],slots:=g.slots.set i (some RR.1),pu:=g.pu.put i v }:Ga)).bZ i RR.1.aH=((({ g with turns:=g.turns.erase i ++ [i] }:Ga).cT i RR.1).bZ i RR.1.aH):=by
      show ({ (({ g with turns:=g.turns.erase i ++ [i],slots:=g.slots.set i (some RR.1),pu:=g.pu.put i v }:Ga)) with pu:=(g.pu.put i v).put i RR.1.aH }:Ga)=_;rw [kP];rfl
     refine ⟨rfl,({ l with hw:=hw1,hs:=k1 ++ (h0' ++ k2) }:Lay),(({ g with turns:=g.turns.erase i ++ [i],slots:=g.slots.set i (some RR.1),pu:=g.pu.put i v }:Ga)).bZ i RR.1.aH,K9.o,by rw [EE];exact OKR.o,rfl,rfl,rfl,rfl,rfl,rfl,rfl,by rw [mF,<- HTr.o,<- HTb.o];rfl,rfl,?_⟩;exact Own.aA.forget (b:=[_,_]) (T9.o.drewN _)
    | false =>
     obtain ⟨LM,hLM⟩:∃ LM:Nat,RR.1.setup.limit=(LM:Int):=⟨RR.1.setup.limit.toNat,by have:=(Pip.fT _).1 (HTo.o HTr.o.symm);omega⟩;rw [hLM];obtain ⟨A,c8,r8,B,he8,hA8⟩:=xA g.es i (OO.o.timed i s HSs.o.1 HSe.o);have HLim:=hhh (fun W (hW:Own.Has W (({ l with hw:=hw1,hs:=k1 ++ (h0' ++ k2) }:Lay).heap ({ g with turns:=g.turns.erase i ++ [i],slots:=g.slots.set i (some RR.1),pu:=g.pu.put i v }:Ga)))=>Timer.aD0 (es:=g.es) A B c8 r8 i he8 hA8 (by have:=K.o.small;have:=HIL.o;omega) LM (hW.perm (bE ({ l with hw:=hw1,hs:=k1 ++ (h0' ++ k2) }:Lay) ({ g with turns:=g.turns.erase i ++ [i],slots:=g.slots.set i (some RR.1),pu:=g.pu.put i v }:Ga))).left K.o.timer 5 rfl);have hB8:∀ e ∈ B,e.1 ≠ i:=by
      intro e hb hei;have h9:=OO.o.once;rw [he8,List.map_append,List.map_cons] at h9;exact (List.nodup_cons.1 (List.nodup_append.1 h9).2.1).1 (by show i ∈ B.map Prod.fst;rw [<- hei];exact List.mem_map_of_mem hb)
     have HES:=hhh (show A ++ (i,c8,{ r8 with limit:=(LM:Int) }) :: B=Timer.eJ g.es i (LM:Int) by rw [he8];exact (Timer.sI A B i c8 _ r8 hA8 hB8).symm);have HLM:=hhh hLM;clear hLM he8 hA8 hB8;go_wp2;go_region_with (refine (HLim.o _ (((T6o.o _).drewN _).has.right (a:=[_,_]))).mono ?_;rintro e W7 ⟨rfl,ht8,m8,t8⟩)
     all_goals
      have TL8:=hhh m8;have T7:=hhh (((T6o.o _).drewN _).trans (Own.aA.behind (r:=[_,_]) (Own.aA.focus (((T6o.o _).drewN _).has.right (a:=[_,_])) (bE ({ l with hw:=hw1,hs:=k1 ++ (h0' ++ k2) }:Lay) ({ g with turns:=g.turns.erase i ++ [i],slots:=g.slots.set i (some RR.1),pu:=g.pu.put i v }:Ga)) (fun _=>t8) (bE ({ l with hw:=hw1,hs:=k1 ++ (h0' ++ k2),ht:=ht8 }:Lay) ({ g with turns:=g.turns.erase i ++ [i],slots:=g.slots.set i (some RR.1),pu:=g.pu.put i v,es:=A ++ (i,c8,{ r8 with limit:=(LM:Int) }) :: B }:Ga))) ((T6o.o _).drewN _).has));have T7:=hhh (show Own.aA (l.heap g) ((BS W1.heap.size i) :: (BG w.heap.size l.gb) :: ({ l with hw:=hw1,hs:=k1 ++ (h0' ++ k2),ht:=ht8 }:Lay).heap ({ g with turns:=g.turns.erase i ++ [i],slots:=g.slots.set i (some RR.1),pu:=g.pu.put i v,es:=A ++ (i,c8,{ r8 with limit:=(LM:Int) }) :: B }:Ga)) w W7 from T7.o);have d3:W7.cell? ⟨w.heap.size,0,none⟩=some (.pointer (some ⟨l.gb,0,none⟩)):=T7.o.has.cell w.heap.size 23 [.pointer (some ⟨l.gb,0,none⟩)] (mcm _ mcs) 0 _ rfl;have d4:W7.cell? ⟨W1.heap.size,0,none⟩=some (.int .i64 (i:Int)):=T7.o.has.cell W1.heap.size 3 [.int .i64 (i:Int)] mcs 0 _ rfl;clear m8 t8 HLim d0 d1;have HC:=hhh (fun (W:World) (hW:Own.Has W (({ l with hw:=hw1,hs:=k1 ++ (h0' ++ k2),ht:=ht8 }:Lay).heap ({ g with turns:=g.turns.erase i ++ [i],slots:=g.slots.set i (some RR.1),pu:=g.pu.put i v,es:=A ++ (i,c8,{ r8 with limit:=(LM:Int) }) :: B }:Ga)))=>cK (l:=({ l with hw:=hw1,hs:=k1 ++ (h0' ++ k2),ht:=ht8 }:Lay)) (g:=({ g with turns:=g.turns.erase i ++ [i],slots:=g.slots.set i (some RR.1),pu:=g.pu.put i v,es:=A ++ (i,c8,{ r8 with limit:=(LM:Int) }) :: B }:Ga)) ⟨(List.length_set ..).trans K.o.len,K.o.ids,(List.length_set ..).trans K.o.pun,FV.o.1,WI.o,TL8.o,SL.o⟩ hW i RR.1 (by show (g.slots.set i (some RR.1))[i]? = _;exact List.getElem?_set_self (by rw [K.o.len];exact HIL.o)) (OO.o.jK i s HSs.o.1) HGd.o (by have:=HB.o.2.2;omega) FV.o.2)
      go_wp2_with (fail);refine (HC.o _ ((T7.o).has.right (a:=[_,_]))).mono ?_;rintro e W9 ⟨⟨v9,rfl⟩,k9,t9⟩;have T9:=hhh ((T7.o).trans (Own.aA.behind (r:=[_,_]) t9 (T7.o).has));have K9:=hhh k9;have hW9:=T9.o.has.right (a:=[_,_]);have e0:W9.cell? ⟨w.heap.size,0,none⟩=some (.pointer (some ⟨l.gb,0,none⟩)):=T9.o.has.cell w.heap.size 23 [.pointer (some ⟨l.gb,0,none⟩)] (mcm _ mcs) 0 _ rfl;have e1:W9.cell? ⟨W1.heap.size,0,none⟩=some (.int .i64 (i:Int)):=T9.o.has.cell W1.heap.size 3 [.int .i64 (i:Int)] mcs 0 _ rfl;have e2:W9.cell? ⟨l.gb,1,none⟩=some (.slice (some ⟨l.ib,0,none⟩) g.n g.n):=cell hW9 1 _ rfl;have e3:W9.cell? ⟨l.ib,i,none⟩=some (.int .i64 ((g.ids[i]'HID.o:Nat):Int)):=oC hW9 i HID.o;have hI:(i:Int) < (g.n:Int):=by have:=HIL.o;omega
      have HIe:=hhh (show g.ids.getD i 0=g.ids[i]'HID.o by have:=HID.o;simp [List.getD_eq_getElem?_getD,this]);clear k9 t9 hW9 HC;go_wp2;go_quiet (fail);go_wp2;go_ret2;rw [HIe.o];have EE:(({ g with turns:=g.turns.erase i ++ [i],slots:=g.slots.set i (some RR.1),pu:=g.pu.put i v,es:=A ++ (i,c8,{ r8 with limit:=(LM:Int) }) :: B }:Ga)).bZ i RR.1.aH=({ ((({ g with turns:=g.turns.erase i ++ [i] }:Ga).cT i RR.1).bZ i RR.1.aH) with es:=A ++ (i,c8,{ r8 with limit:=(LM:Int) }) :: B }:Ga):=by
       show ({ (({ g with turns:=g.turns.erase i ++ [i],slots:=g.slots.set i (some RR.1),pu:=g.pu.put i v,es:=A ++ (i,c8,{ r8 with limit:=(LM:Int) }) :: B }:Ga)) with pu:=(g.pu.put i v).put i RR.1.aH }:Ga)=_;rw [kP];rfl
      refine ⟨rfl,({ l with hw:=hw1,hs:=k1 ++ (h0' ++ k2),ht:=ht8 }:Lay),(({ g with turns:=g.turns.erase i ++ [i],slots:=g.slots.set i (some RR.1),pu:=g.pu.put i v,es:=A ++ (i,c8,{ r8 with limit:=(LM:Int) }) :: B }:Ga)).bZ i RR.1.aH,K9.o,by rw [EE];exact OKR.o.xC _ (by rw [HES.o];exact Timer.vK ..) (by rw [HES.o];exact Timer.xF (fun e he=>(OO.o.fresh e he).1) (fun e he=>(OO.o.fresh e he).2)),rfl,rfl,rfl,rfl,rfl,rfl,rfl,by rw [mF,<- HTr.o,<- HTb.o,HLM.o];exact HES.o,rfl,?_⟩;exact Own.aA.forget (b:=[_,_]) (T9.o.drewN _)
end
end Gate
end
end Go.Proofs.YtcjflgmcjfcodaaGreat
