/- Texts of the walk, joined. -/
import Derived.Test.YtcjflgmcjfcodaaGreatM18
import Derived.Test.YtcjflgmcjfcodaaGreatM22
import Derived.Test.YtcjflgmcjfcodaaGreatM24
import Derived.Test.YtcjflgmcjfcodaaGreatM25
import Derived.Test.YtcjflgmcjfcodaaGreatM27
import Derived.Handy
import Derived.Lib.FrozenHead2
import Derived.Stop.Asserts
set_option maxRecDepth 100000
set_option maxHeartbeats 8000000
namespace Go.Proofs.Tryz end Go.Proofs.Tryz
namespace Go.Proofs.YtcjflgmcjfcodaaGreat
open Go.Proofs.Tryz
section
open Go.RowKit
open Json (Part Wr)
namespace Bld
variable {w:World} {b:Nat} {p sv:Value}
section
variable {N:Nat} {T:TypeId} {pre post:List Value}
theorem aLc (lies : liesAt prog prog.depth T (N / prog.cellsOf T) pre.length 115 1 = true) (hN : (pre ++ [p, sv] ++ post).length = N)
  {l:List UInt8} {hb:Own.Heap} (s:ByteArray) (hB:Own.Buf 5 l sv hb) (hw:Own.Has w (Own.row b T (pre ++ [p,sv] ++ post) :: hb)) (hp:p = .pointer none \/ p = .pointer (some ⟨b,pre.length,none⟩)) (hl:l.length + s.size <= 1000000000) :
  Calls prog 80 #[.pointer (some ⟨b,pre.length,none⟩),.string s] w fun e w'=>e = .returned (.tuple #[.int .i64 s.size,.nilIface]) /\
   ∃ sv' hb',Own.Buf 5 (l ++ s.data.toList) sv' hb' /\ Own.aA (Own.row b T (pre ++ [p,sv] ++ post) :: hb) (Own.row b T (pre ++ [.pointer (some ⟨b,pre.length,none⟩),sv'] ++ post) :: hb') w w':=by
 have hi:=hw.is3 mcs;have HC:=hhh (lZ lies hN hi hp);have HW:=hhh hw;obtain ⟨i0,hii,hz0,hz1,hz2⟩:=info_parts infoByte;have HL:=hhh hl;clear hw lies hN hl;go_enter func80,ntmps80;go_wp2_with (fail);refine HC.o.mono ?_;rintro e w1 ⟨rfl,h1,o1⟩;have t1:=Own.aA.only HW.o h1 o1;have c1:=h1.cell 1 _ rfl;have HI1:=hhh h1;clear h1 o1;go_wp2_with (at_builtin;refine Own.iF rfl _ _ 55 9 rfl 5 i0 underlying55 underlying9 hii hz0 hz1 hz2 _ l hb [_] rfl hB (t1.has.perm (List.perm_append_comm (l₁:=[_]))) s rfl ?c3 ?c4 ?_)
 case c3=>have:=HL.o;unfold maxLen;omega
 case c4=>have:=HL.o;omega
 intro ad' n' c' h' w2 hn hB' t2;have t2':=t2.perm List.perm_append_comm List.perm_append_comm;have eqr:∀ x y:Value,pre ++ x :: y :: post=pre ++ [x,y] ++ post:=fun x y=>by simp
 rw [eqr] at t2';have t3:=t1.trans t2';have hi2:=t3.has.is3 mcs;have f1:=hi2.free (pre.length + 1);have c12:=hi2.cell 1 _ rfl;clear hi hn eqr;go_wp2;go_ret2;refine ⟨rfl,_,_,hB',?_⟩;have h4:=hi2.set 1 (.slice ad' n' c') (Nat.le_refl _);exact t3.trans (Own.aA.only t3.has h4 ((At.aV.refl b _).set _ _))
end
theorem aBp {l : List UInt8} {hb : Own.Heap} (s : ByteArray) (hB : Own.Buf 5 l sv hb) (hw : Own.Has w (Own.row b 115 [p, sv] :: hb)) (hp : p = .pointer none ∨ p = .pointer (some ⟨b, 0, none⟩)) (hl : l.length + s.size ≤ 1000000000) :
  Calls prog 80 #[.pointer (some ⟨b,0,none⟩),.string s] w fun e w'=>e = .returned (.tuple #[.int .i64 s.size,.nilIface]) /\
   ∃ sv' hb',Own.Buf 5 (l ++ s.data.toList) sv' hb' /\ Own.aA (Own.row b 115 [p,sv] :: hb) (Own.row b 115 [.pointer (some ⟨b,0,none⟩),sv'] :: hb') w w' :=
 aLc (pre:=[]) (post:=[]) liesB rfl s hB hw hp hl
theorem lE {l : List UInt8} {hb : Own.Heap} (hB : Own.Buf 5 l sv hb) (hw : Own.Has w (Own.row b 115 [p, sv] :: hb)) :
  Calls prog 81 #[.pointer (some ⟨b,0,none⟩)] w fun e w'=>e = .returned (.string ⟨l.toArray⟩) /\
   ∃ hb',Own.Buf 5 l sv hb' /\ Own.aA (Own.row b 115 [p,sv] :: hb) (Own.row b 115 [p,sv] :: hb') w w' :=
 sZ (pre:=[]) (post:=[]) hB hw
end Bld
namespace Pip
def Reader.Is:Reader -> Nat -> Own.Heap -> Prop
 | .json p,b,h=>p.Is b h
 | .bB p,b,h=>p.Is b h
 | .pack p,b,h=>p.Is b h
def Writer.Is:Writer -> Nat -> Own.Heap -> Prop
 | .json w,b,h=>w.Is b h
 | .bB w,b,h=>Cb.Is w b h
 | .pack w,b,h=>Pk.Is w b h
def HoldIs:Option Stg -> Value -> Own.Heap -> Prop
 | none,v,h=>v = .pointer none /\ h=[]
 | some s,v,h=>∃ b,v = .pointer (some ⟨b,0,none⟩) /\ s.Is b h
def Reader.ty:Reader -> TypeId
 | .json _=>127
 | .bB _=>133
 | .pack _=>135
def Writer.ty:Writer -> TypeId
 | .json _=>142
 | .bB _=>146
 | .pack _=>150
def Writer.fn:Writer -> Nat
 | .json _=>210
 | .bB _=>237
 | .pack _=>244
def ptr (b:Nat):Value:=.pointer (some ⟨b,0,none⟩)
def Pp.cells (p:Pp) (rb wb:Nat) (hv:Value):List Value :=
 [.iface p.input.ty (.pointer (some ⟨rb,0,none⟩)),.iface p.output.ty (.pointer (some ⟨wb,0,none⟩)),hv,.bool p.over,.int .i64 (p.e:Int)]
def Pp.At (p:Pp) (b rb wb:Nat) (hv:Value) (h:Own.Heap):Prop :=
 ∃ hr hw hh,h=Own.row b 126 (p.cells rb wb hv) :: (hr ++ (hw ++ hh)) /\ p.input.Is rb hr /\ p.output.Is wb hw /\ HoldIs p.hold hv hh
def Pp.Is (p:Pp) (b:Nat) (h:Own.Heap):Prop:=∃ rb wb hv,p.At b rb wb hv h
def iM (o:Pp × List UInt8 × Nat) (b:Nat) (h:Own.Heap) (w:World) (e:Ending) (w':World):Prop :=
 ∃ h',e = .returned (.tuple #[.string ⟨o.2.1.toArray⟩,.int .i64 (o.2.2:Int)]) /\ o.1.Is b h' /\ Own.aA h h' w w'
theorem _root_.Go.Proofs.YtcjflgmcjfcodaaGreat.Own.Slc.rF {e : TypeId} {xs : List Value} {v : Value} {h : Own.Heap} (s : Own.Slc e xs v h) (hn : 0 < xs.length) :
  ∃ b off c,v = .slice (some ⟨b,off,none⟩) xs.length c /\ ∀ w,Own.Has w h -> ∀ j u,xs[j]? = some u -> w.cell? ⟨b,off + j,none⟩=some u:=by
 cases s with
 | bare a h0=>subst h0;cases hn
 | row b pre spare hm =>
  refine ⟨b,pre.length,_,rfl,fun w hw j u hj=>?_⟩;refine hw.cell b e (pre ++ (xs ++ spare)) mcs (pre.length + j) u ?_;rw [List.getElem?_append_right (by omega),Nat.add_sub_cancel_left,List.getElem?_append_left (List.getElem?_eq_some_iff.1 hj).1];exact hj
structure Wok (k M:Nat) (ok:Part -> Prop) (text:Part -> List UInt8) (B:Nat) (Tb:World -> Prop):Prop where
 step:∀ (W:Writer),W.kind=k -> ∀ (wb n:Nat) (h:Own.Heap) (w:World),W.Is wb h -> Own.Has w h -> W.Fits n -> n <= 100000 -> (∀ x ∈ Own.blocks h,B <= x) -> Tb w -> ∀ p,Fine p -> ok p ->
  Calls prog W.fn #[.pointer (some ⟨wb,0,none⟩),p.val] w fun e w'=>e = .returned (.tuple #[.string ⟨(W.step text p).1.toArray⟩,.int .i64 ((W.step text p).2.1:Int)]) /\
   ∃ h',(W.step text p).2.2.Is wb h' /\ Own.aA h h' w w'
 len:∀ (W:Writer),W.kind=k -> ∀ p,Fine p -> ok p -> (W.step text p).1.length <= M
 of:∀ u v,Tb u -> Below B u v -> Tb v
 stage:k=3 -> ∀ q,ok q -> ∀ p,ok p
 room:M * 3000 <= 100000000
theorem Writer.wE (text:Part -> List UInt8) (W:Writer) (p:Part):W.some text [p]=W.step text p:=by
 unfold Writer.some;split
 ·rfl
 ·rename_i h
  have:(W.step text p).2.1=0:=by simpa using h
  simp only [Writer.some,List.append_nil];rw [<- this]
section
variable {k M B:Nat} {ok:Part -> Prop} {text:Part -> List UInt8} {Tb:World -> Prop}
theorem Wok.qX (H:Wok k M ok text B Tb):∀ (l:List Part) (W:Writer),W.kind=k -> (∀ p ∈ l,Fine p /\ ok p) -> (W.some text l).1.length <= M * l.length
 | [],W,_,_=>Nat.zero_le _
 | p :: l,W,hk,hl=>by
  have hp:=hl p mcs
  have h1:=H.len W hk p hp.1 hp.2
  have h2:=Wok.qX H l (W.step text p).2.2 ((Writer.nE text W p).trans hk) fun q hq=>hl q (mcm _ hq)
  have e:M * (l.length + 1)=M * l.length + M:=Nat.mul_succ ..
  unfold Writer.some
  split
  ·rw [List.length_cons,e];simp only;omega
  ·rw [lla,List.length_cons,e];omega
theorem Pp.mB (text:Part -> List UInt8) (p:Pp) (v:Part):(p.one text v).1.output.kind=p.output.kind:=by
 unfold Pp.one;split
 ·exact Writer.iY text _ _
 ·split
  ·rfl
  ·exact Writer.iY text _ _
theorem Wok.aCz (H:Wok k M ok text B Tb) {p:Pp} {n:Nat} (hf:p.Fits n) (hk:p.output.kind=k) (v:Part) (hv:Fine v /\ ok v):(p.one text v).2.length + M * (p.one text v).1.bM <= M * (p.bM + 1):=by
 unfold Pp.one Pp.bM
 cases hh:p.hold with
 | none =>
  simp only;have:=H.qX [v] p.output hk fun q hq=>by rw [List.mem_singleton.1 hq];exact hv
  simpa using this
 | some s =>
  have h3:k=3:=by have:=hf.kind;rw [hh,hk] at this;simpa using this.symm
  have g:=(hf.hold s hh).step v hv.1;have hfew:=g.few;simp only;split
  ·simp only [List.length_nil,Nat.zero_add]
   exact Nat.mul_le_mul_left _ (by omega)
  ·have:=H.qX (s.step v).2.1 p.output hk fun q hq=>⟨g.fine q hq,H.stage h3 v hv.2 q⟩
   have h2:M * ((s.step v).2.1.length + (s.step v).1.held.length) <= M * (s.held.length + 1):=Nat.mul_le_mul_left _ hfew;rw [Nat.mul_add] at h2;simp only;omega
theorem Wok.dE (H:Wok k M ok text B Tb):∀ (l:List Part) {p:Pp} {n:Nat},p.Fits n -> p.output.kind=k -> (∀ v ∈ l,Fine v /\ ok v) -> (p.ahead text l).2.length + M * (p.ahead text l).1.bM <= M * (p.bM + l.length)
 | [],p,n,_,_,_=>by simp [Pp.ahead]
 | v :: l,p,n,hf,hk,hl=>by
  have hv:=hl v mcs
  have h1:=H.aCz hf hk v hv
  have h2:=Wok.dE H l (hf.one text v hv.1) ((Pp.mB text p v).trans hk) fun q hq=>hl q (mcm _ hq)
  simp only [Pp.ahead,lla,List.length_cons]
  rw [Nat.mul_add] at h1 h2
  rw [Nat.mul_add,Nat.mul_succ]
  omega
end
end Pip
end
section
open Go.RowKit
open Json (Part Wr)
namespace Pip
theorem aJ8 (v:Value) (xT:TypeId) (w:World):(Instr.typeAssert (.iface 146 v) xT 184 true).run prog w = .ok (.tuple #[.iface 146 v,.bool true]) w :=
 run_typeAssert_hasB underlying184 (by kernel_rfl) v xT w
theorem aI9 (v:Value) (xT:TypeId) (w:World):(Instr.typeAssert (.iface 142 v) xT 184 true).run prog w = .ok (.tuple #[.iface 142 v,.bool true]) w :=
 run_typeAssert_hasB underlying184 (by kernel_rfl) v xT w
theorem aKg (v:Value) (xT:TypeId) (w:World):(Instr.typeAssert (.iface 150 v) xT 184 true).run prog w = .ok (.tuple #[.iface 150 v,.bool true]) w :=
 run_typeAssert_hasB underlying184 (by kernel_rfl) v xT w
theorem Pp.aCx (text:Part -> List UInt8) (p:Pp) (h:p.e=0) (l:List Part) (j:Nat) (hz:∀ k,k < j -> (p.ahead text (l.take (k + 1))).1.e=0):(p.ahead text (l.take j)).1.e=0:=by
 cases j with
 | zero=>simpa [Pp.ahead] using h
 | succ j=>exact hz j (Nat.lt_succ_self j)
theorem Pp.lH (text : Part → List UInt8) (p : Pp) (l : List Part) (e j : Nat) (hj : j < l.length) (hz : ∀ k, k < j → (p.ahead text (l.take (k + 1))).1.e = 0) (h : (p.ahead text (l.take (j + 1))).1.e ≠ 0) :
  p.write text l e=((p.ahead text (l.take (j + 1))).1,(p.ahead text (l.take (j + 1))).2,(p.ahead text (l.take (j + 1))).1.e):=by
 rw [Pp.oA text l e j p hz (by omega),List.drop_eq_getElem_cons hj];have hs:l.take (j + 1)=l.take j ++ [l[j]]:=List.take_succ_eq_append_getElem hj;rw [hs,Pp.fM] at h |-;simp only [Pp.write];rw [ifp h]
theorem Pp.mY (text : Part → List UInt8) (p : Pp) (l : List Part) (e : Nat) (hz : ∀ k, k < l.length → (p.ahead text (l.take (k + 1))).1.e = 0) :
  p.write text l e=(⟨(p.ahead text l).1.input,(p.ahead text l).1.output,(p.ahead text l).1.hold,(p.ahead text l).1.over,e⟩,(p.ahead text l).2,e):=by
 rw [Pp.oA text l e l.length p hz (Nat.le_refl _),List.take_length,List.drop_length];simp [Pp.write]
def flat (RT WT:TypeId) (rb wb:Nat) (hv:Value) (ov:Bool) (e:Nat):List Value:=[.iface RT (.pointer (some ⟨rb,0,none⟩)),.iface WT (.pointer (some ⟨wb,0,none⟩)),hv,.bool ov,.int .i64 (e:Int)]
theorem aCa {M B : Nat} {ok : Part → Prop} {text : Part → List UInt8} {Tb : World → Prop} (H : Wok 2 M ok text B Tb) {p : Pp} {b n e : Nat} {h hl : Own.Heap} {w : World} {v : Value}
  (hi:p.Is b h) (hf:p.Fits n) (hn:n <= 90000) (hk:p.output.kind=2) (he:p.e=0) (l:List Part) (hl18:l.length <= 18) (hfine:∀ v ∈ l,Fine v /\ ok v)
  (hs:Own.Slc 20 (aF l) v hl) (hw:Own.Has w (hl ++ h)) (hB:∀ x ∈ Own.blocks (hl ++ h),B <= x) (hBw:B <= w.heap.size) (hT:Tb w) :
  Calls prog 86 #[.pointer (some ⟨b,0,none⟩),v,.int .i64 (e:Int)] w (iM (p.write text l e) b (hl ++ h) w):=by
 obtain ⟨rb,wb,hv,hr,hw0,hh,rfl,iR,iW,iH⟩:=hi;obtain ⟨R,W,Ho,ov,pe⟩:=p;have hko:=hf.kind;simp only at hk he hko iR iW iH;subst he;rw [hk] at hko;obtain rfl:Ho=none:=by cases Ho with
  | none=>rfl
  | some s=>cases hko
 obtain ⟨rfl,rfl⟩:=iH
 cases W with
 | json W=>cases hk
 | pack W=>cases hk
 | bB W =>
 obtain ⟨a,c,rfl⟩:=hs.len;have hcl:(aF l).length=l.length:=List.length_map ..;rw [hcl] at hs |-;obtain ⟨RT,hRT⟩:∃ RT,RT=R.ty:=⟨_,rfl⟩;have hce:∀ (W:Cw) (e:Nat),(Pp.mk R (.bB W) none ov e).cells rb wb (.pointer none)=flat RT 146 rb wb (.pointer none) ov e:=fun W e=>by unfold Pp.cells flat;rw [hRT];rfl
 rw [hce] at hw hB |-;obtain ⟨p,hp⟩:∃ p,p=Pp.mk R (.bB W) none ov 0:=⟨_,rfl⟩;have p0:p.e=0:=by rw [hp]
 rw [<- hp] at hf |-;have HP:=hhh hp
 have HIs:=hhh (fun (W:Cw) (e:Nat) (hj:Own.Heap) (i:Cb.Is W wb hj)=>(show (Pp.mk R (.bB W) none ov e).Is b (Own.row b 126 (flat RT 146 rb wb (.pointer none) ov e) :: (hr ++ (hj ++ []))) from
  ⟨rb,wb,.pointer none,hr,hj,[],by rw [hce],iR,i,rfl,rfl⟩))
 have HW:=hhh hw;have HS:=hhh hs;have HFt:=hhh hf;have HFine:=hhh hfine;have HH:=hhh H;have HHB:=hhh hB;have HT:=hhh hT;have HIW:=hhh iW;have hTA:=aJ8;have HHl:=hhh (show p.bM=0 by rw [hp];rfl);have HStop:=hhh (fun j hj hz h=>Pp.lH text p l e j hj hz h);have HEnd:=hhh (fun hz=>Pp.mY text p l e hz);have HAe:=hhh (fun j hz=>Pp.aCx text p p0 l j hz);have HLen:=hhh (H.dE l hf (by rw [hp];rfl) hfine);have HLens:=hhh (fun j=>H.dE (l.take j) hf (by rw [hp];rfl) fun v hv=>hfine v (List.mem_of_mem_take hv));have HFits:=hhh (fun j=>Pp.Fits.ahead text (l.take j) hf fun v hv=>(hfine v (List.mem_of_mem_take hv)).1);generalize p.write text l e=PW at HStop HEnd |-;obtain ⟨N,hN⟩:∃ N,N=l.length:=⟨_,rfl⟩;rw [<- hN] at hl18 HS |-;have HN:=hhh hN;have c1:=hw.right.cell b _ _ mcs 1 _ rfl;have c1':=fun o=>(Own.aA.aD (Own.aA.refl hw) o).has.right.cell b _ _ mcs 1 _ rfl
 have HStr:=hhh (fun (u:World) (L:List UInt8) (pp sv:Value) (hb h3:Own.Heap) (e3:Nat) (B:Own.Buf 5 L sv hb) (t:Own.aA (hl ++ Own.row b 126 (flat RT 146 rb wb (.pointer none) ov 0) :: (hr ++ (hw0 ++ []))) (Own.row b 126 (flat RT 146 rb wb (.pointer none) ov e3) :: (Own.row w.heap.size 115 [pp,sv] :: (hb ++ (hl ++ (hr ++ (h3 ++ [])))))) w u) =>
  (show Calls prog 81 #[.pointer (some ⟨w.heap.size,0,none⟩)] u fun e w'=>e = .returned (.string ⟨L.toArray⟩) /\ ∃ hb',Own.aA (hl ++ Own.row b 126 (flat RT 146 rb wb (.pointer none) ov 0) :: (hr ++ (hw0 ++ []))) (Own.row b 126 (flat RT 146 rb wb (.pointer none) ov e3) :: (Own.row w.heap.size 115 [pp,sv] :: (hb' ++ (hl ++ (hr ++ (h3 ++ [])))))) w w' from by
   refine (Bld.lE (b:=w.heap.size) (p:=pp) B (t.has.right (a:=[_])).left).mono ?_;rintro e w' ⟨rfl,hb',hB',t'⟩
   exact ⟨rfl,hb',t.trans (Own.aA.focus t.has (Own.aE _ ((Own.row w.heap.size 115 [pp,sv] :: hb) ++ (Own.row b 126 (flat RT 146 rb wb (.pointer none) ov e3) :: (hl ++ (hr ++ (h3 ++ []))))) fun x=>by simp only [List.count_append,List.count_cons,List.count_nil];omega) (fun _=>t') (Own.aE _ _ fun x=>by simp only [List.count_append,List.count_cons,List.count_nil];omega))⟩))
 have HFin:=hhh (fun (u:World) (pp sv:Value) (hb h3:Own.Heap) (e3:Nat) (t:Own.aA (hl ++ Own.row b 126 (flat RT 146 rb wb (.pointer none) ov 0) :: (hr ++ (hw0 ++ []))) (Own.row b 126 (flat RT 146 rb wb (.pointer none) ov e3) :: (Own.row w.heap.size 115 [pp,sv] :: (hb ++ (hl ++ (hr ++ (h3 ++ [])))))) w u) =>
  (show Own.aA (hl ++ Own.row b 126 (flat RT 146 rb wb (.pointer none) ov 0) :: (hr ++ (hw0 ++ []))) (Own.row b 126 (flat RT 146 rb wb (.pointer none) ov e3) :: (hr ++ (h3 ++ []))) w u from (t.perm (.refl _) (Own.aE _ ((Own.row w.heap.size 115 [pp,sv] :: (hb ++ hl)) ++ (Own.row b 126 (flat RT 146 rb wb (.pointer none) ov e3) :: (hr ++ (h3 ++ [])))) fun x=>by simp only [List.count_append,List.count_cons,List.count_nil];omega)).forget))
 have T0:=hhh (((Own.aA.refl hw).aP w.heap.size rfl 115 [.pointer none,.slice none 0 0]).perm (.refl _)
  (Own.aE _ (Own.row b 126 (flat RT 146 rb wb (.pointer none) ov 0) :: (Own.row w.heap.size 115 [.pointer none,.slice none 0 0] :: ([] ++ (hl ++ (hr ++ (hw0 ++ [])))))) fun x=>by simp only [List.count_append,List.count_cons,List.count_nil];omega))
 clear hs hw hf hfine H hB hT hN hp p0 iW hcl hce hRT;go_enter func86,ntmps86;go_wp2_with (fail)
 go_loopw [27] (fun i wr => ∃ (j : Nat) (pp sv : Value) (hb hj : Own.Heap) (Wj : Cw), i = .int .i64 j ∧ j ≤ N ∧ Hid (∀ k, k < j → (p.ahead text (l.take (k + 1))).1.e = 0) ∧ Hid ((p.ahead text (l.take j)).1 = Pp.mk R (.bB Wj) none ov 0) ∧
   (pp = .pointer none \/ pp = .pointer (some ⟨w.heap.size,0,none⟩)) /\ Own.Buf 5 (p.ahead text (l.take j)).2 sv hb /\ Cb.Is Wj wb hj /\
   Own.aA (hl ++ Own.row b 126 (flat RT 146 rb wb (.pointer none) ov 0) :: (hr ++ (hw0 ++ []))) (Own.row b 126 (flat RT 146 rb wb (.pointer none) ov 0) :: (Own.row w.heap.size 115 [pp,sv] :: (hb ++ (hl ++ (hr ++ (hj ++ [])))))) w wr) (fun i _=>N - (intOf i).toNat)
 case atStart=>exact ⟨0,_,_,[],hw0,W,rfl,Nat.zero_le _,hhh fun k hk=>absurd hk (Nat.not_lt_zero _),hhh HP.o,.inl rfl,.none rfl,HIW.o,T0.o⟩
 case round =>
  obtain ⟨j,pp,sv,hb,hj,Wj,rfl,hjN,hz,hPj,hpp,hbuf,hij,ht⟩:=hrel;have HBuf:=hhh hbuf;have HIj:=hhh hij;have T:=hhh ht;have HPP:=hhh hpp;clear hbuf hij ht hpp c1 c1' T0 HIW;by_cases hlt:j < N
  ·have hjl:j < l.length:=by have:=HN.o;omega
   have hltI:(j:Int) < (N:Int):=by omega
   obtain ⟨tb,off,c2,e1,hcell⟩:=HS.o.rF (by rw [aI];omega);injection e1 with e1a e1b e1c
   subst e1a;clear e1b e1c;have k0:=hcell wr (T.o.has.right (a:=[_,_])).right.left j l[j].val (by unfold aF;rw [List.getElem?_map,List.getElem?_eq_getElem hjl];rfl);clear hcell;have hq:=hhh (HFine.o _ (List.getElem_mem hjl));have hfj:=hhh (show (Writer.bB Wj).Fits 100000 from (show (Pp.mk R (.bB Wj) none ov 0).Fits _ by rw [<- hPj.out];exact HFits.o j).out.mono (by rw [List.length_take];omega));have hBj:=hhh (T.o.least HHB.o hBw);have hTj:=hhh (fun u (k:Below B w u)=>HH.o.of _ _ HT.o k);have hbl:=hhh (fun o=>(T.o.aD o).below HHB.o hBw);have hlen:=hhh (HLens.o j)
   have hsn:=hhh (show p.ahead text (l.take (j + 1))=(((p.ahead text (l.take j)).1.one text l[j]).1,(p.ahead text (l.take j)).2 ++ ((p.ahead text (l.take j)).1.one text l[j]).2) by
    rw [show l.take (j + 1)=l.take j ++ [l[j]] from List.take_succ_eq_append_getElem hjl,Pp.fM])
   generalize l[j]=q at k0 hq hsn
   have HC:=hhh (fun o=>(show Calls prog 237 #[.pointer (some ⟨wb,0,none⟩),q.val] (wr.alloc o) fun e w'=>e = .returned (.tuple #[.string ⟨(Wj.bB q).1.toArray⟩,.int .i64 ((Wj.bB q).2.1:Int)]) /\ ∃ h',Cb.Is (Wj.bB q).2.2 wb h' /\ Own.aA hj h' (wr.alloc o) w' from by
    have h1:=HH.o.step (.bB Wj) rfl wb 100000 hj (wr.alloc o) HIj.o ((T.o.aD o).has.right (a:=[_,_])).right.right.right.left hfj.o (Nat.le_refl _) (fun x hx=>hBj.o x (by
     simp only [Own.blocks,List.map_cons,List.map_append,List.mem_cons,List.mem_append] at hx |-
     exact .inr (.inr (.inr (.inr (.inr (.inl hx))))))) (hTj.o _ (hbl.o o)) q hq.o.1 hq.o.2
    exact h1))
   have hone:(p.ahead text (l.take (j + 1)))=(Pp.mk R (.bB (Wj.bB q).2.2) none ov (Wj.bB q).2.1,(p.ahead text (l.take j)).2 ++ (Wj.bB q).1):=by
    rw [hsn.o,hPj.out];simp only [Pp.one,Writer.wE];rfl
   have hln:(Wj.bB q).1.length <= M:=HH.o.len (.bB Wj) rfl q hq.o.1 hq.o.2;have Hone:=hhh hone;have Hln:=hhh hln;clear hone hln hsn;generalize Wj.bB q=R2 at HC Hone Hln;obtain ⟨s2,e2,W2⟩:=R2;simp only at HC Hone Hln;have c4:=fun o=>(T.o.aD o).has.cell b _ _ mcs 4 _ rfl
   have c2:=fun o=>(T.o.aD o).has.cell b _ _ mcs 2 _ rfl
   obtain ⟨V,hV⟩:∃ V,V=q.val:=⟨_,rfl⟩;rw [<- hV] at k0 HC;have hY:=eR q;rw [<- hV] at hY;clear hV hq
   have HO:=hhh (fun (u:World) (h3:Own.Heap) (e3:Nat) (t:Own.aA (hl ++ Own.row b 126 (flat RT 146 rb wb (.pointer none) ov 0) :: (hr ++ (hw0 ++ []))) (Own.row b 126 (flat RT 146 rb wb (.pointer none) ov 0) :: (Own.row w.heap.size 115 [pp,sv] :: (hb ++ (hl ++ (hr ++ (h3 ++ [])))))) w u) =>
    (show Own.aA (hl ++ Own.row b 126 (flat RT 146 rb wb (.pointer none) ov 0) :: (hr ++ (hw0 ++ []))) (Own.row b 126 (flat RT 146 rb wb (.pointer none) ov e3) :: (Own.row w.heap.size 115 [pp,sv] :: (hb ++ (hl ++ (hr ++ (h3 ++ [])))))) w (u.setCell ⟨b,4,none⟩ (.int .i64 (e3:Int))) from t.set 4 (.int .i64 (e3:Int)) (by simp [flat])))
   have HStep:=hhh (fun (o:Obj) (u:World) (h3:Own.Heap) (t:Own.aA hj h3 (wr.alloc o) u)=>(T.o.aD o).trans (Own.aA.focus (T.o.aD o).has (Own.aE _ (hj ++ (Own.row b 126 (flat RT 146 rb wb (.pointer none) ov 0) :: (Own.row w.heap.size 115 [pp,sv] :: (hb ++ (hl ++ (hr ++ [])))))) fun x=>by simp only [List.count_append,List.count_cons,List.count_nil];omega) (fun _=>t)
    (Own.aE (Own.row b 126 (flat RT 146 rb wb (.pointer none) ov 0) :: (Own.row w.heap.size 115 [pp,sv] :: (hb ++ (hl ++ (hr ++ (h3 ++ [])))))) _ fun x=>by simp only [List.count_append,List.count_cons,List.count_nil];omega)))
   have HWs:=hhh (fun (u:World) (h3:Own.Heap) (e3:Nat) (t:Own.aA (hl ++ Own.row b 126 (flat RT 146 rb wb (.pointer none) ov 0) :: (hr ++ (hw0 ++ []))) (Own.row b 126 (flat RT 146 rb wb (.pointer none) ov e3) :: (Own.row w.heap.size 115 [pp,sv] :: (hb ++ (hl ++ (hr ++ (h3 ++ [])))))) w u) =>
    (show Calls prog 80 #[.pointer (some ⟨w.heap.size, 0, none⟩), .string ⟨s2.toArray⟩] u fun e w' => e = .returned (.tuple #[.int .i64 ((⟨s2.toArray⟩ : ByteArray).size : Int), .nilIface]) ∧ ∃ sv' hb', Own.Buf 5 ((p.ahead text (l.take j)).2 ++ s2) sv' hb' ∧
      Own.aA (hl ++ Own.row b 126 (flat RT 146 rb wb (.pointer none) ov 0) :: (hr ++ (hw0 ++ []))) (Own.row b 126 (flat RT 146 rb wb (.pointer none) ov e3) :: (Own.row w.heap.size 115 [.pointer (some ⟨w.heap.size,0,none⟩),sv'] :: (hb' ++ (hl ++ (hr ++ (h3 ++ [])))))) w w' from by
     refine (Bld.aBp (b:=w.heap.size) (p:=pp) ⟨s2.toArray⟩ HBuf.o (t.has.right (a:=[_])).left HPP.o ?_).mono ?_
     ·have h1:=hlen.o
      have h2:=HH.o.room;have h3:=Hln.o;have h4:(⟨s2.toArray⟩:ByteArray).size=s2.length:=aL s2;have h5:M * (p.bM + (l.take j).length) <= M * 18:=Nat.mul_le_mul_left _ (by rw [List.length_take,HHl.o];omega);omega
     ·rintro e w' ⟨rfl,sv',hb',hB',t'⟩
      exact ⟨rfl,sv',hb',hB',t.trans (Own.aA.focus t.has (Own.aE _ ((Own.row w.heap.size 115 [pp,sv] :: hb) ++ (Own.row b 126 (flat RT 146 rb wb (.pointer none) ov e3) :: (hl ++ (hr ++ (h3 ++ []))))) fun x=>by simp only [List.count_append,List.count_cons,List.count_nil];omega) (fun _=>t') (Own.aE _ _ fun x=>by simp only [List.count_append,List.count_cons,List.count_nil];omega))⟩))
   rcases hY with rfl | ⟨VT,VX,rfl⟩
   all_goals
    go_wp2_with (fail);refine wp_loop_rounds 2 ?_;rw [rounds_succ];go_wp2_with (fail);refine (HC.o _).mono ?_;rintro e3 w3 ⟨rfl,h3,i3,t3⟩;have I3:=hhh i3;have T3:=hhh (HStep.o _ _ _ t3);have g4:=T3.o.has.cell b _ _ mcs 4 _ rfl;have gf:=T3.o.has.free b _ _ mcs 4;have T4:=hhh (HO.o _ _ e2 T3.o);have HWc:=hhh (HWs.o _ _ _ T4.o);clear i3 t3 c4 c2;go_wp2_with (fail);refine HWc.o.mono ?_;rintro e4 w4 ⟨rfl,sv5,hb5,B5,t5⟩;have T5:=hhh t5;have HB5:=hhh B5;have d4:=T5.o.has.cell b _ _ mcs 4 _ rfl;clear t5 B5 g4 gf;go_wp2_with (fail);rw [rounds_succ];by_cases h0:e2=0
    ·subst h0
     go_wp2_with (fail);go_roundw
     case rel=>exact ⟨j + 1,_,sv5,hb5,h3,W2,by go_num,by omega,hhh (fun k hk=>by
      by_cases hkj:k < j
      ·exact hz.out k hkj
      ·obtain rfl:k=j:=by omega
       rw [Hone.o]),hhh (by rw [Hone.o]),.inr rfl,by rw [Hone.o];exact HB5.o,I3.o,T5.o⟩
     case measure=>simp [intOf];omega
    ·have h0':((e2:Int) != 0)=true:=by rw [bne_iff_ne];omega
     have HPW:=HStop.o j hjl hz.out (by rw [Hone.o];exact h0);rw [Hone.o] at HPW;have HPw:=hhh HPW;clear h0 HPW;go_wp2_with (fail);go_region_with (go_at_call 81;(first | refine (HStr.o _ _ _ _ _ _ _ HB5.o T5.o.drew).mono ?_ | refine (HStr.o _ _ _ _ _ _ _ HB5.o (T5.o.drewN _)).mono ?_ | refine (HStr.o _ _ _ _ _ _ _ HB5.o T5.o).mono ?_);rintro e6 w6 ⟨rfl,hb6,t6⟩;have T6:=hhh t6;have d6:=T6.o.has.cell b _ _ mcs 4 _ rfl;clear t6)
     all_goals
      go_wp2;go_ret2;rw [HPw.o];exact ⟨_,rfl,HIs.o W2 e2 h3 I3.o,HFin.o _ _ _ _ _ _ T6.o⟩
  ·have hge:(N:Int) <= (j:Int):=by omega
   obtain rfl:j=N:=by omega
   have hE:=HEnd.o (by rw [<- HN.o];exact hz.out);have hta:l.take j=l:=by rw [HN.o];exact List.take_length
   rw [hta] at hPj HBuf;rw [hPj.out] at hE;have HE:=hhh hE;have c4:=T.o.has.cell b _ _ mcs 4 _ rfl;have f4:=T.o.has.free b _ _ mcs 4;have T1:=hhh (show Own.aA (hl ++ Own.row b 126 (flat RT 146 rb wb (.pointer none) ov 0) :: (hr ++ (hw0 ++ []))) (Own.row b 126 (flat RT 146 rb wb (.pointer none) ov e) :: (Own.row w.heap.size 115 [pp,sv] :: (hb ++ (hl ++ (hr ++ (hj ++ [])))))) w (wr.setCell ⟨b,4,none⟩ (.int .i64 (e:Int))) from T.o.set 4 (.int .i64 (e:Int)) (by simp [flat]));have HS1:=hhh (HStr.o _ _ _ _ _ _ _ HBuf.o T1.o);clear hE hta;go_wp2_with (fail);refine HS1.o.mono ?_;rintro e6 w6 ⟨rfl,hb6,t6⟩;have T6:=hhh t6;clear t6;go_wp2;go_ret2;rw [HE.o];exact ⟨_,rfl,HIs.o Wj e hj HIj.o,HFin.o _ _ _ _ _ _ T6.o⟩
end Pip
end
section
open Go.RowKit
open Json (Part Wr)
namespace Pip
theorem Pp.Is.rows {p:Pp} {b:Nat} {h:Own.Heap} (hi:p.Is b h):∃ rb wb hv r,h=Own.row b 126 (p.cells rb wb hv) :: r:=by
 obtain ⟨rb,wb,hv,hr,hw,hh,rfl,-,-,-⟩:=hi;exact ⟨rb,wb,hv,_,rfl⟩
theorem fW {p : Pp} {b : Nat} {h : Own.Heap} {w : World} (hi : p.Is b h) (hw : Own.Has w h) :
  Calls prog 82 #[.pointer (some ⟨b,0,none⟩)] w fun e w'=>e = .returned (.int .i64 (p.may:Int)) /\ w=w':=by
 obtain ⟨rb,wb,hv,r,rfl⟩:=hi.rows;have c4:=hw.cell b _ _ mcs 4 _ rfl;have c3:=hw.cell b _ _ mcs 3 _ rfl;have hm:p.may=if p.e ≠ 0 then p.e else if p.over=true then 14 else 0:=rfl
 generalize p.may=m at hm |-;generalize p.over=ov at hm c3;by_cases h0:p.e=0
 ·rw [h0] at hm c4
  have HM:=hhh hm;clear hm h0 hi hw
  cases ov
  all_goals
   go_enter func82,ntmps82;go_wp2;go_ret;exact ⟨by rw [HM.o];rfl,rfl⟩
 ·rw [ifp h0] at hm
  have HM:=hhh hm;have hb:((p.e:Int) != 0)=true:=by rw [bne_iff_ne];omega
  clear hm h0 hi hw;go_enter func82,ntmps82;go_wp2;go_ret;exact ⟨by rw [HM.o];rfl,rfl⟩
end Pip
end
section
open Go.RowKit
open Json (Part Wr)
namespace Pip
structure yB (k M:Nat) (ok:Part -> Prop) (text:Part -> List UInt8) (B:Nat) (Tb:World -> Prop):Prop where
 wok:Wok k M ok text B Tb
 write:∀ {p:Pp} {b n e:Nat} {h hl:Own.Heap} {w:World} {v:Value},p.Is b h -> p.Fits n -> n <= 90000 -> p.output.kind=k -> p.e=0 -> ∀ (l:List Part),l.length <= 18 -> (∀ v ∈ l,Fine v /\ ok v) ->
  Own.Slc 20 (aF l) v hl -> Own.Has w (hl ++ h) -> (∀ x ∈ Own.blocks (hl ++ h),B <= x) -> B <= w.heap.size -> Tb w ->
  Calls prog 86 #[.pointer (some ⟨b,0,none⟩),v,.int .i64 (e:Int)] w (iM (p.write text l e) b (hl ++ h) w)
theorem aCm (v:Value) (xT:TypeId) (w:World):(Instr.typeAssert (.iface 127 v) xT 122 true).run prog w = .ok (.tuple #[.iface 127 v,.bool true]) w :=
 run_typeAssert_hasB underlying122 (by kernel_rfl) v xT w
theorem aCg (v:Value) (xT:TypeId) (w:World):(Instr.typeAssert (.iface 133 v) xT 122 true).run prog w = .ok (.tuple #[.iface 133 v,.bool true]) w :=
 run_typeAssert_hasB underlying122 (by kernel_rfl) v xT w
theorem aC4 (v:Value) (xT:TypeId) (w:World):(Instr.typeAssert (.iface 135 v) xT 122 true).run prog w = .ok (.tuple #[.iface 135 v,.bool true]) w :=
 run_typeAssert_hasB underlying122 (by kernel_rfl) v xT w
def Reader.fn:Reader -> Nat
 | .json _=>148
 | .bB _=>176
 | .pack _=>201
def Reader.kind:Reader -> Nat
 | .json _=>1
 | .bB _=>2
 | .pack _=>3
def aLf (o:Reader × List Part × Nat) (b:Nat) (h:Own.Heap) (w:World) (e:Ending) (w':World):Prop :=
 ∃ v hv h',e = .returned (.tuple #[v,.int .i64 (o.2.2:Int)]) /\ Own.Slc 20 (aF o.2.1) v hv /\ o.1.Is b h' /\ Own.aA h (hv ++ h') w w'
structure Reads (f:Nat):Prop where
 step:∀ (r:Reader),r.kind=f -> ∀ {b n:Nat} {h:Own.Heap} {w:World},r.Is b h -> Own.Has w h -> r.Fits n -> n <= 1000000 -> ∀ x:UInt8,
  Calls prog r.fn #[.pointer (some ⟨b,0,none⟩),.int .u8 (x.toNat:Int)] w (aLf (r.step x) b h w)
theorem reads_json:Reads 1 where
 step r hk b n h w hi hw hf _ x:=by
  cases r with
  | json p=>exact aEe (p:=p) hi hw hf x
  | bB p=>cases hk
  | pack p=>cases hk
section
variable {k M B:Nat} {ok:Part -> Prop} {text:Part -> List UInt8} {Tb:World -> Prop}
theorem dN (H : yB k M ok text B Tb) {fk : Nat} (RS : Reads fk) {p : Pp} {b n : Nat} {h : Own.Heap} {w : World} (hi : p.Is b h) (hw : Own.Has w h) (hf : p.Fits n) (hn : n ≤ 80000) (hk : p.output.kind = k) (hfk : p.input.kind = fk) (x : UInt8)
  (hok:p.may=0 -> ∀ v ∈ (p.input.step x).2.1,ok v) (hB:∀ x ∈ Own.blocks h,B <= x) (hBw:B <= w.heap.size) (hT:Tb w) :
  Calls prog 71 #[.pointer (some ⟨b,0,none⟩),.int .u8 (x.toNat:Int)] w (iM (p.step text x) b h w):=by
 have HM:=hhh (fW hi hw);have HW:=hhh hw;have HI:=hhh hi;by_cases hm:p.may=0
 ·have hp0:p.e=0:=by
   unfold Pp.may at hm;split at hm
   ·rename_i h1;exact absurd hm h1
   ·omega
  have HP:=hhh (show p.step text x=(Pp.mk (p.input.step x).1 p.output p.hold p.over p.e).write text (p.input.step x).2.1 (p.input.step x).2.2 by unfold Pp.step;rw [ifn (by simp [hm])]);rw [hm] at HM;obtain ⟨rb,wb,hv,hr,hw0,hh,rfl,iR,iW,iH⟩:=hi;have hg:=Reader.eU hf.input x;have HR:=hhh (RS.step _ hfk iR (hw.right (a:=[_])).left hf.input (by omega) x);have HF2:=hhh (hf.on (Nat.le_succ n) hg.fits p.over);have HGf:=hhh hg.few;have HGo:=hhh (show ∀ v ∈ (p.input.step x).2.1,Fine v /\ ok v from fun v hv=>⟨hg.fine v hv,hok hm v hv⟩);have HTy:(p.input.step x).1.ty=p.input.ty:=by cases p.input <;> rfl
  have HIs:=hhh (fun (hr':Own.Heap) (i:(p.input.step x).1.Is rb hr')=>(show (Pp.mk (p.input.step x).1 p.output p.hold p.over p.e).Is b (Own.row b 126 (p.cells rb wb hv) :: (hr' ++ (hw0 ++ hh))) from
   ⟨rb,wb,hv,hr',hw0,hh,by unfold Pp.cells;simp only [HTy],i,iW,iH⟩))
  have HH:=hhh H;have HHB:=hhh hB;have HT:=hhh hT;generalize p.input.step x=O at HP HR HF2 HGf HGo HIs;obtain ⟨r2,ps,e2⟩:=O;simp only at HP HR HF2 HGf HGo HIs
  have HWr:=hhh (fun (v:Value) (hv2 hr':Own.Heap) (w1:World) (s:Own.Slc 20 (aF ps) v hv2) (i:r2.Is rb hr') (t:Own.aA hr (hv2 ++ hr') w w1) =>
   (show Calls prog 86 #[.pointer (some ⟨b,0,none⟩),v,.int .i64 (e2:Int)] w1 (iM (p.step text x) b (Own.row b 126 (p.cells rb wb hv) :: (hr ++ (hw0 ++ hh))) w) from by
    have T:Own.aA (Own.row b 126 (p.cells rb wb hv) :: (hr ++ (hw0 ++ hh))) (hv2 ++ (Own.row b 126 (p.cells rb wb hv) :: (hr' ++ (hw0 ++ hh)))) w w1 :=
     Own.aA.focus HW.o (Own.aE _ (hr ++ (Own.row b 126 (p.cells rb wb hv) :: (hw0 ++ hh))) fun x=>by simp only [List.count_append,List.count_cons];omega) (fun _=>t)
      (Own.aE _ ((hv2 ++ hr') ++ (Own.row b 126 (p.cells rb wb hv) :: (hw0 ++ hh))) fun x=>by simp only [List.count_append,List.count_cons];omega)
    refine (HH.o.write (HIs.o hr' i) HF2.o (by omega) hk hp0 ps HGf.o HGo.o s T.has (T.least HHB.o hBw) (Nat.le_trans hBw T.keeps.size) (HH.o.wok.of _ _ HT.o (T.below HHB.o hBw))).mono ?_;rintro e w2 ⟨h',rfl,i',t'⟩;rw [HP.o]
    exact ⟨h',rfl,i',T.trans t'⟩))
  generalize p.step text x=PS at HP HWr |-;have c0:=hw.cell b _ _ mcs 0 _ rfl;obtain ⟨pi,po,ph,pv,pe⟩:=p;simp only at c0 iR HR hm hp0 hk HTy;clear hw hf hg hok H hB hT HP HF2 HGf HGo HIs iR iW iH HTy hm hk hfk RS
  cases pi
  case json pj =>
   have hTA:=aCm;simp only [Reader.ty] at c0;simp only [Reader.fn] at HR;go_enter func71,ntmps71;go_wp2_with (fail);refine HM.o.mono ?_;rintro e w1 ⟨rfl,rfl⟩;go_wp2_with (fail);refine HR.o.mono ?_;rintro e3 w3 ⟨v,hv2,hr',rfl,s3,i3,t3⟩;have HX:=hhh (HWr.o v hv2 hr' w3 s3 i3 t3);clear s3 i3 t3 c0;go_wp2_with (fail);refine HX.o.mono ?_;rintro e4 w4 ⟨h',rfl,i4,t4⟩;go_wp2;go_ret2;exact ⟨h',rfl,i4,t4⟩
  case bB pj =>
   have hTA:=aCg;simp only [Reader.ty] at c0;simp only [Reader.fn] at HR;go_enter func71,ntmps71;go_wp2_with (fail);refine HM.o.mono ?_;rintro e w1 ⟨rfl,rfl⟩;go_wp2_with (fail);refine HR.o.mono ?_;rintro e3 w3 ⟨v,hv2,hr',rfl,s3,i3,t3⟩;have HX:=hhh (HWr.o v hv2 hr' w3 s3 i3 t3);clear s3 i3 t3 c0;go_wp2_with (fail);refine HX.o.mono ?_;rintro e4 w4 ⟨h',rfl,i4,t4⟩;go_wp2;go_ret2;exact ⟨h',rfl,i4,t4⟩
  case pack pj =>
   have hTA:=aC4;simp only [Reader.ty] at c0;simp only [Reader.fn] at HR;go_enter func71,ntmps71;go_wp2_with (fail);refine HM.o.mono ?_;rintro e w1 ⟨rfl,rfl⟩;go_wp2_with (fail);refine HR.o.mono ?_;rintro e3 w3 ⟨v,hv2,hr',rfl,s3,i3,t3⟩;have HX:=hhh (HWr.o v hv2 hr' w3 s3 i3 t3);clear s3 i3 t3 c0;go_wp2_with (fail);refine HX.o.mono ?_;rintro e4 w4 ⟨h',rfl,i4,t4⟩;go_wp2;go_ret2;exact ⟨h',rfl,i4,t4⟩
 ·have HP:=hhh (show p.step text x=(p,[],p.may) by unfold Pp.step;rw [ifp hm])
  have hb:((p.may:Int) != 0)=true:=by rw [bne_iff_ne];omega
  clear hw hi hf hok H hB hT hm hfk RS;go_enter func71,ntmps71;go_wp2_with (fail);refine HM.o.mono ?_;rintro e w1 ⟨rfl,rfl⟩;go_wp2;go_ret2;rw [HP.o];exact ⟨h,rfl,HI.o,Own.aA.refl HW.o⟩
theorem aMo (b:Nat) (W:World):(Instr.typeAssert (.iface 127 (.pointer (some ⟨b,0,none⟩))) 20 127 true).run prog W = .ok (.tuple #[.pointer (some ⟨b,0,none⟩),.bool true]) W:=by kernel_rfl
theorem aM5 (b:Nat) (W:World):(Instr.typeAssert (.iface 133 (.pointer (some ⟨b,0,none⟩))) 20 127 true).run prog W = .ok (.tuple #[.pointer none,.bool false]) W:=by kernel_rfl
theorem aMn (b:Nat) (W:World):(Instr.typeAssert (.iface 133 (.pointer (some ⟨b,0,none⟩))) 20 133 true).run prog W = .ok (.tuple #[.pointer (some ⟨b,0,none⟩),.bool true]) W:=by kernel_rfl
theorem aMy (b:Nat) (W:World):(Instr.typeAssert (.iface 135 (.pointer (some ⟨b,0,none⟩))) 20 127 true).run prog W = .ok (.tuple #[.pointer none,.bool false]) W:=by kernel_rfl
theorem aMx (b:Nat) (W:World):(Instr.typeAssert (.iface 135 (.pointer (some ⟨b,0,none⟩))) 20 133 true).run prog W = .ok (.tuple #[.pointer none,.bool false]) W:=by kernel_rfl
theorem aMr (b:Nat) (W:World):(Instr.typeAssert (.iface 135 (.pointer (some ⟨b,0,none⟩))) 20 135 true).run prog W = .ok (.tuple #[.pointer (some ⟨b,0,none⟩),.bool true]) W:=by kernel_rfl
theorem fV (H : yB k M ok text B Tb) {p : Pp} {b n : Nat} {h : Own.Heap} {w : World} (hi : p.Is b h) (hw : Own.Has w h) (hf : p.Fits n) (hn : n ≤ 80000) (hk : p.output.kind = k)
  (hok:p.may=0 -> ∀ v ∈ p.input.fin.2.1,ok v) (hB:∀ x ∈ Own.blocks h,B <= x) (hBw:B <= w.heap.size) (hT:Tb w) :
  Calls prog 69 #[.pointer (some ⟨b,0,none⟩)] w (iM (p.fin text) b h w):=by
 have HM:=hhh (fW hi hw);have HW:=hhh hw;have HI:=hhh hi;by_cases hm:p.may=0
 ·have hp0:p.e=0:=by
   unfold Pp.may at hm;split at hm
   ·rename_i h1;exact absurd hm h1
   ·omega
  have HP:=hhh (show p.fin text=(Pp.mk p.input.fin.1 p.output p.hold true p.e).write text p.input.fin.2.1 p.input.fin.2.2 by unfold Pp.fin;rw [ifn (by simp [hm])]);rw [hm] at HM;obtain ⟨rb,wb,hv,hr,hw0,hh,rfl,iR,iW,iH⟩:=hi;have hg:=Reader.qJ hf.input;have HF2:=hhh (hf.on (Nat.le_refl n) hg.fits true);have HGf:=hhh hg.few;have HGo:=hhh (show ∀ v ∈ p.input.fin.2.1,Fine v /\ ok v from fun v hv=>⟨hg.fine v hv,hok hm v hv⟩);have HTy:p.input.fin.1.ty=p.input.ty:=by cases p.input <;> rfl
  have HIs:=hhh (fun (hr':Own.Heap) (i:p.input.fin.1.Is rb hr')=>(show (Pp.mk p.input.fin.1 p.output p.hold true p.e).Is b (Own.row b 126 ((Pp.mk p.input p.output p.hold true p.e).cells rb wb hv) :: (hr' ++ (hw0 ++ hh))) from
   ⟨rb,wb,hv,hr',hw0,hh,by unfold Pp.cells;simp only [HTy],i,iW,iH⟩))
  have HH:=hhh H;have HHB:=hhh hB;have HT:=hhh hT;have HIR:=hhh iR;have T1:=hhh (show Own.aA (Own.row b 126 (p.cells rb wb hv) :: (hr ++ (hw0 ++ hh))) (Own.row b 126 ((Pp.mk p.input p.output p.hold true p.e).cells rb wb hv) :: (hr ++ (hw0 ++ hh))) w (w.setCell ⟨b,3,none⟩ (.bool true)) from (Own.aA.refl hw).set 3 (.bool true) (by simp [Pp.cells]))
  have HWr:=hhh (fun (v:Value) (hv2 hr':Own.Heap) (w1:World) (s:Own.Slc 20 (aF p.input.fin.2.1) v hv2) (i:p.input.fin.1.Is rb hr') (t:Own.aA hr (hv2 ++ hr') (w.setCell ⟨b,3,none⟩ (.bool true)) w1) =>
   (show Calls prog 86 #[.pointer (some ⟨b,0,none⟩),v,.int .i64 (p.input.fin.2.2:Int)] w1 (iM (p.fin text) b (Own.row b 126 (p.cells rb wb hv) :: (hr ++ (hw0 ++ hh))) w) from by
    have T:Own.aA (Own.row b 126 (p.cells rb wb hv) :: (hr ++ (hw0 ++ hh))) (hv2 ++ (Own.row b 126 ((Pp.mk p.input p.output p.hold true p.e).cells rb wb hv) :: (hr' ++ (hw0 ++ hh)))) w w1 :=
     T1.o.trans (Own.aA.focus T1.o.has (Own.aE _ (hr ++ (Own.row b 126 ((Pp.mk p.input p.output p.hold true p.e).cells rb wb hv) :: (hw0 ++ hh))) fun x=>by simp only [List.count_append,List.count_cons];omega) (fun _=>t)
      (Own.aE _ ((hv2 ++ hr') ++ (Own.row b 126 ((Pp.mk p.input p.output p.hold true p.e).cells rb wb hv) :: (hw0 ++ hh))) fun x=>by simp only [List.count_append,List.count_cons];omega))
    refine (HH.o.write (HIs.o hr' i) HF2.o (by omega) hk hp0 p.input.fin.2.1 HGf.o HGo.o s T.has (T.least HHB.o hBw) (Nat.le_trans hBw T.keeps.size) (HH.o.wok.of _ _ HT.o (T.below HHB.o hBw))).mono ?_;rintro e w2 ⟨h',rfl,i',t'⟩;rw [HP.o]
    exact ⟨h',rfl,i',T.trans t'⟩))
  generalize p.fin text=PS at HP HWr |-;have c0:=T1.o.has.cell b _ _ mcs 0 _ rfl;have c3:=hw.cell b _ _ mcs 3 _ rfl;have f3:=hw.free b _ _ mcs 3;have HRh:=hhh (T1.o.has.right (a:=[_])).left;have HFi:=hhh hf.input;obtain ⟨pi,po,ph,pv,pe⟩:=p;simp only at c0 c3 iR HIR hm hp0 hk HTy HFi;clear hw hf hg hok H hB hT HP HF2 HGf HGo HIs iR iW iH HTy hm hk
  cases pi
  case json pj =>
   simp only [Reader.ty] at c0;have a1:=aMo rb;have HR:=hhh (show Calls prog 85 #[.pointer (some ⟨rb,0,none⟩)] _ (mH pj.fin rb hr _) from aH0 (p:=pj) HIR.o HRh.o HFi.o);go_enter func69,ntmps69;go_wp2_with (fail);refine HM.o.mono ?_;rintro e w1 ⟨rfl,rfl⟩;go_wp2_with (fail);refine HR.o.mono ?_;rintro e3 w3 ⟨v,hv2,hr',rfl,s3,i3,t3⟩;have HX:=hhh (HWr.o v hv2 hr' w3 s3 i3 t3);clear s3 i3 t3 c0 c3 f3;go_wp2_with (fail);refine HX.o.mono ?_;rintro e4 w4 ⟨h',rfl,i4,t4⟩;go_wp2;go_ret2;exact ⟨h',rfl,i4,t4⟩
  case bB pj =>
   simp only [Reader.ty] at c0;have a1:=aM5 rb;have a2:=aMn rb;have HR:=hhh (aCc (p:=pj) HIR.o HRh.o);have HX:=hhh (HWr.o (.slice none 0 0) [] hr _ (.bare none rfl) HIR.o (Own.aA.refl HRh.o));go_enter func69,ntmps69;go_wp2_with (fail);refine HM.o.mono ?_;rintro e w1 ⟨rfl,rfl⟩;go_wp2_with (fail);refine HR.o.mono ?_;rintro e3 w3 ⟨rfl,rfl⟩;go_wp2_with (fail);refine HX.o.mono ?_;rintro e4 w4 ⟨h',rfl,i4,t4⟩;go_wp2;go_ret2;exact ⟨h',rfl,i4,t4⟩
  case pack pj =>
   simp only [Reader.ty] at c0;have a1:=aMy rb;have a2:=aMx rb;have a3:=aMr rb;have HR:=hhh (aBf (p:=pj) HIR.o HRh.o);have HX:=hhh (HWr.o (.slice none 0 0) [] hr _ (.bare none rfl) HIR.o (Own.aA.refl HRh.o));go_enter func69,ntmps69;go_wp2_with (fail);refine HM.o.mono ?_;rintro e w1 ⟨rfl,rfl⟩;go_wp2_with (fail);refine HR.o.mono ?_;rintro e3 w3 ⟨rfl,rfl⟩;go_wp2_with (fail);refine HX.o.mono ?_;rintro e4 w4 ⟨h',rfl,i4,t4⟩;go_wp2;go_ret2;exact ⟨h',rfl,i4,t4⟩
 ·have HP:=hhh (show p.fin text=(p,[],p.may) by unfold Pp.fin;rw [ifp hm])
  have hb:((p.may:Int) != 0)=true:=by rw [bne_iff_ne];omega
  clear hw hi hf hok H hB hT hm;go_enter func69,ntmps69;go_wp2_with (fail);refine HM.o.mono ?_;rintro e w1 ⟨rfl,rfl⟩;go_wp2;go_ret2;rw [HP.o];exact ⟨h,rfl,HI.o,Own.aA.refl HW.o⟩
end
end Pip
end
end Go.Proofs.YtcjflgmcjfcodaaGreat
