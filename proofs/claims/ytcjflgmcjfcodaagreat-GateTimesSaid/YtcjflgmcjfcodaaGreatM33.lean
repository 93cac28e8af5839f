/- Texts of the walk, joined. -/
import Derived.Test.YtcjflgmcjfcodaaGreatM25
import Derived.Test.YtcjflgmcjfcodaaGreatM26
import Derived.Test.YtcjflgmcjfcodaaGreatM29
import Derived.Test.YtcjflgmcjfcodaaGreatM30
import Derived.Test.YtcjflgmcjfcodaaGreatM31
import Derived.Test.YtcjflgmcjfcodaaGreatM32
set_option maxRecDepth 100000
set_option maxHeartbeats 8000000
namespace Go.Proofs.Tryz end Go.Proofs.Tryz
namespace Go.Proofs.YtcjflgmcjfcodaaGreat
open Go.Proofs.Tryz
section
open Go.RowKit
open Json (Part Wr)
namespace Pip
theorem jF (F v:Nat) (l:List Nat) (h:∀ n ∈ l,n <= 8):(sized F v l 0).length <= 9:=Pk.nB F v l 0 h
theorem sH (p:Part) (hp:Fine p):(packPlain p).1.length <= 209:=by
 cases p with
 | bool b=>cases b <;> simp [packPlain]
 | whole n m =>
  cases n
  ·simp only [packPlain]
   split
   ·simp [aS]
   ·exact Nat.le_trans (jF _ _ _ (by simp)) (by decide)
  ·simp only [packPlain]
   unfold bX
   repeat' split
   all_goals simp [aS]
 | word s =>
  have h1:=hp.text s (.inl rfl);have h3:(bytesOf s).length=s.size:=rfl;have h2:=jF 217 s.size [1,2,4] (by simp);simp only [packPlain];split
  ·simp only [lla,aS];omega
  ·simp only [lla];omega
 | cW s =>
  have h1:=hp.text s (.inr rfl);have h3:(bytesOf s).length=s.size:=rfl;have h2:=jF 196 s.size [1,2,4] (by simp);simp only [packPlain,lla];omega
 | _=>simp [packPlain]
theorem sQ (m:Bool) (c:Int):(bS m c).1.length <= 209:=by
 unfold bS;split
 ·simp
 ·split
  ·simp [aS]
  ·exact Nat.le_trans (jF _ _ _ (by simp)) (by decide)
theorem rM (W:Cw) (p:Part) (hp:Fine p):(W.pack p).1.length <= 300:=by
 have hpl:=sH p hp;unfold Cw.pack;split
 ·simp
 ·cases p with
  | close =>
   dsimp only
   unfold Cw.dF;split
   ·simp
   ·split <;> simp
  | aG m c =>
   have hb:=sQ m c
   dsimp only
   split
   ·simp
   ·unfold Cw.rQ
    dsimp only
    split
    ·simp
    ·exact Nat.le_trans hb (by decide)
  | _ =>
   dsimp only
   split
   ·simp
   ·unfold Cw.rQ
    dsimp only
    split
    ·simp
    ·exact Nat.le_trans hpl (by decide)
theorem yE (text:Part -> List UInt8):Wok 3 300 (fun _=>True) text 0 (fun _=>True) where
 step W hk wb n h w hi hw hf hn _ _ p hp _:=by
  cases W with
  | json W=>cases hk
  | bB W=>cases hk
  | pack W=>exact Pk.dN hi hw hf hn p hp
 len W hk p hp _:=by
  cases W with
  | json W=>cases hk
  | bB W=>cases hk
  | pack W=>exact rM W p hp
 of _ _ _ _:=trivial
 stage _ _ _ _:=trivial
 room:=by decide
def Cw.feed (a:List UInt8 × Nat × Cw) (x:Part):List UInt8 × Nat × Cw :=
 if a.2.1 ≠ 0 then a else (a.1 ++ (a.2.2.pack x).1,(a.2.2.pack x).2.1,(a.2.2.pack x).2.2)
theorem gP (l:List Part) (a:List UInt8 × Nat × Cw) (h:a.2.1 ≠ 0):l.foldl Cw.feed a=a:=by
 induction l with
 | nil=>rfl
 | cons x l ih=>rw [List.foldl_cons,show Cw.feed a x=a from ifp h];exact ih
theorem tL (l:List Part) (o:List UInt8) (e:Nat) (W:Cw):l.foldl Cw.feed (o,e,W)=(o ++ (l.foldl Cw.feed ([],e,W)).1,(l.foldl Cw.feed ([],e,W)).2):=by
 induction l generalizing o e W with
 | nil=>simp
 | cons x l ih =>
  by_cases h:e=0
  ·subst h
   simp only [List.foldl_cons];rw [show Cw.feed (o,0,W) x=(o ++ (W.pack x).1,(W.pack x).2.1,(W.pack x).2.2) from rfl,show Cw.feed ([],0,W) x=((W.pack x).1,(W.pack x).2.1,(W.pack x).2.2) from rfl];rw [ih (o ++ (W.pack x).1),ih (W.pack x).1];simp
  ·rw [gP _ (o,e,W) h,gP _ ([],e,W) h]
   simp
theorem tM (text:Part -> List UInt8):∀ (l:List Part) (W:Cw),(Writer.pack W).some text l=((l.foldl Cw.feed ([],0,W)).1,(l.foldl Cw.feed ([],0,W)).2.1,.pack (l.foldl Cw.feed ([],0,W)).2.2)
 | [],W=>rfl
 | x :: l,W=>by
  rw [List.foldl_cons,show Cw.feed ([],0,W) x=((W.pack x).1,(W.pack x).2.1,(W.pack x).2.2) from rfl]
  unfold Writer.some
  have e1:(Writer.pack W).step text x=((W.pack x).1,(W.pack x).2.1,.pack (W.pack x).2.2):=rfl
  rw [e1]
  dsimp only
  split
  ·rename_i h
   rw [gP _ _ h]
  ·rename_i h
   have h0:(W.pack x).2.1=0:=by simpa using h
   rw [h0,tM text l,tL l (W.pack x).1]
theorem aGh (text : Part → List UInt8) (R : Reader) (W : Cw) (s : Stg) (ov : Bool) (e0 : Nat) (v : Part) :
  (Pp.mk R (.pack W) (some s) ov e0).one text v=(Pp.mk R (.pack ((s.step v).2.1.foldl Cw.feed ([],(s.step v).2.2,W)).2.2) (some (s.step v).1) ov ((s.step v).2.1.foldl Cw.feed ([],(s.step v).2.2,W)).2.1,((s.step v).2.1.foldl Cw.feed ([],(s.step v).2.2,W)).1):=by
 unfold Pp.one
 dsimp only
 split
 ·rename_i h
  rw [gP _ _ h]
 ·rename_i h
  have h0:(s.step v).2.2=0:=by simpa using h
  rw [h0,tM]
theorem aD5 (l:List Part) (a:List UInt8 × Nat × Cw) (i:Nat) (h:i < l.length):(l.take (i + 1)).foldl Cw.feed a=Cw.feed ((l.take i).foldl Cw.feed a) l[i]:=by
 rw [List.take_succ_eq_append_getElem h,List.foldl_append];rfl
theorem aG0 (l:List Part) (hl:∀ v ∈ l,Fine v) (e:Nat) (W:Cw):(l.foldl Cw.feed ([],e,W)).1.length <= 300 * l.length:=by
 induction l generalizing e W with
 | nil=>simp
 | cons x l ih =>
  by_cases h:e=0
  ·subst h
   rw [List.foldl_cons,show Cw.feed ([],0,W) x=((W.pack x).1,(W.pack x).2.1,(W.pack x).2.2) from rfl,tL];have h1:=rM W x (hl x mcs);have h2:=ih (fun v hv=>hl v (mcm _ hv)) (W.pack x).2.1 (W.pack x).2.2;simp only [lla,List.length_cons];omega
  ·rw [gP _ ([],e,W) h]
   simp
theorem aFw (l:List Part) (hl:∀ v ∈ l,Fine v) (e:Nat) (o:List UInt8) (W:Cw) (n:Nat) (hW:W.Fits n):(l.foldl Cw.feed (o,e,W)).2.2.Fits (n + l.length):=by
 induction l generalizing e o W n with
 | nil=>exact hW
 | cons x l ih =>
  by_cases h:e=0
  ·subst h
   rw [List.foldl_cons,show Cw.feed (o,0,W) x=(o ++ (W.pack x).1,(W.pack x).2.1,(W.pack x).2.2) from rfl];exact (ih (fun v hv=>hl v (mcm _ hv)) (W.pack x).2.1 _ _ (n + 1) (hW.pack x (hl x mcs))).mono (by simp only [List.length_cons];omega)
  ·rw [gP _ (o,e,W) h]
   exact hW.mono (by omega)
end Pip
end
section
open Go.RowKit
open Json (Part Wr)
namespace Pip
theorem aBs (text : Part → List UInt8) {p : Pp} {b n e : Nat} {h hl : Own.Heap} {w : World} {v : Value}
  (hi:p.Is b h) (hf:p.Fits n) (hn:n <= 90000) (hk:p.output.kind=3) (he:p.e=0) (l:List Part) (hl18:l.length <= 18) (hfine:∀ v ∈ l,Fine v)
  (hs:Own.Slc 20 (aF l) v hl) (hw:Own.Has w (hl ++ h)) :
  Calls prog 86 #[.pointer (some ⟨b,0,none⟩),v,.int .i64 (e:Int)] w (iM (p.write text l e) b (hl ++ h) w):=by
 obtain ⟨rb,wb,hv,hr,hw0,hs0,rfl,iR,iW,iH⟩:=hi;obtain ⟨R,W,Ho,ov,pe⟩:=p;have hko:=hf.kind;simp only at hk he hko iR iW iH;subst he;rw [hk] at hko
 cases Ho with
 | none=>cases hko
 | some S0 =>
 obtain ⟨sb,rfl,iS⟩:=iH
 cases W with
 | json W=>cases hk
 | bB W=>cases hk
 | pack W =>
 obtain ⟨a,c,rfl⟩:=hs.len;have hcl:(aF l).length=l.length:=List.length_map ..;rw [hcl] at hs |-;obtain ⟨RT,hRT⟩:∃ RT,RT=R.ty:=⟨_,rfl⟩;have hce:∀ (W:Cw) (s:Stg) (e:Nat),(Pp.mk R (.pack W) (some s) ov e).cells rb wb (.pointer (some ⟨sb,0,none⟩))=flat RT 150 rb wb (.pointer (some ⟨sb,0,none⟩)) ov e:=fun W s e=>by unfold Pp.cells flat;rw [hRT];rfl
 rw [hce] at hw |-;have hS0:=hf.hold S0 rfl;have hok:∀ v ∈ l,Fine v /\ (fun _:Part=>True) v:=fun v hv=>⟨hfine v hv,trivial⟩
 obtain ⟨p,hp⟩:∃ p,p=Pp.mk R (.pack W) (some S0) ov 0:=⟨_,rfl⟩;have p0:p.e=0:=by rw [hp]
 have HHl:=hhh (show p.bM <= 2000 by rw [hp];have:=hS0.held;have:=hS0.size;have:=hS0.limit;show S0.held.length <= 2000;omega);rw [<- hp] at hf |-;have HP:=hhh hp
 have HIs:=hhh (fun (W:Cw) (s:Stg) (e:Nat) (hj hs:Own.Heap) (i:Pk.Is W wb hj) (is:s.Is sb hs)=>(show (Pp.mk R (.pack W) (some s) ov e).Is b (Own.row b 126 (flat RT 150 rb wb (.pointer (some ⟨sb,0,none⟩)) ov e) :: (hr ++ (hj ++ hs))) from
  ⟨rb,wb,.pointer (some ⟨sb,0,none⟩),hr,hj,hs,by rw [hce],iR,i,⟨sb,rfl,is⟩⟩))
 have HW:=hhh hw;have HS:=hhh hs;have HFine:=hhh hfine;have HIW:=hhh iW;have HIS:=hhh iS;have hTA:=aKg;have HStop:=hhh (fun j hj hz h=>Pp.lH text p l e j hj hz h);have HEnd:=hhh (fun hz=>Pp.mY text p l e hz);have HLens:=hhh (fun j=>(yE text).dE (l.take j) hf (by rw [hp];rfl) fun v hv=>hok v (List.mem_of_mem_take hv));have HFits:=hhh (fun j=>Pp.Fits.ahead text (l.take j) hf fun v hv=>hfine v (List.mem_of_mem_take hv));generalize p.write text l e=PW at HStop HEnd |-;obtain ⟨N,hN⟩:∃ N,N=l.length:=⟨_,rfl⟩;rw [<- hN] at hl18 HS |-;have HN:=hhh hN;have c1:=hw.right.cell b _ _ mcs 1 _ rfl;have c1':=fun o=>(Own.aA.aD (Own.aA.refl hw) o).has.right.cell b _ _ mcs 1 _ rfl
 have HStr:=hhh (fun (u:World) (L:List UInt8) (pp sv:Value) (hb h3 h4:Own.Heap) (e3:Nat) (B:Own.Buf 5 L sv hb) (t:Own.aA (hl ++ Own.row b 126 (flat RT 150 rb wb (.pointer (some ⟨sb,0,none⟩)) ov 0) :: (hr ++ (hw0 ++ hs0))) (Own.row b 126 (flat RT 150 rb wb (.pointer (some ⟨sb,0,none⟩)) ov e3) :: (Own.row w.heap.size 115 [pp,sv] :: (hb ++ (hl ++ (hr ++ (h3 ++ h4)))))) w u) =>
  (show Calls prog 81 #[.pointer (some ⟨w.heap.size,0,none⟩)] u fun e w'=>e = .returned (.string ⟨L.toArray⟩) /\ ∃ hb',Own.aA (hl ++ Own.row b 126 (flat RT 150 rb wb (.pointer (some ⟨sb,0,none⟩)) ov 0) :: (hr ++ (hw0 ++ hs0))) (Own.row b 126 (flat RT 150 rb wb (.pointer (some ⟨sb,0,none⟩)) ov e3) :: (Own.row w.heap.size 115 [pp,sv] :: (hb' ++ (hl ++ (hr ++ (h3 ++ h4)))))) w w' from by
   refine (Bld.lE (b:=w.heap.size) (p:=pp) B (t.has.right (a:=[_])).left).mono ?_;rintro e w' ⟨rfl,hb',hB',t'⟩
   exact ⟨rfl,hb',t.trans (Own.aA.focus t.has (Own.aE _ ((Own.row w.heap.size 115 [pp,sv] :: hb) ++ (Own.row b 126 (flat RT 150 rb wb (.pointer (some ⟨sb,0,none⟩)) ov e3) :: (hl ++ (hr ++ (h3 ++ h4))))) (fun x=>by simp only [List.count_append,List.count_cons];omega)) (fun _=>t') (Own.aE _ _ (fun x=>by simp only [List.count_append,List.count_cons];omega)))⟩))
 have HWS:=hhh (fun (u:World) (L S2:List UInt8) (pp sv:Value) (hb h3 h4:Own.Heap) (e3:Nat) (hlen:L.length + S2.length <= 1000000000) (hpp:pp = .pointer none \/ pp = .pointer (some ⟨w.heap.size,0,none⟩)) (B:Own.Buf 5 L sv hb) (t:Own.aA (hl ++ Own.row b 126 (flat RT 150 rb wb (.pointer (some ⟨sb,0,none⟩)) ov 0) :: (hr ++ (hw0 ++ hs0))) (Own.row b 126 (flat RT 150 rb wb (.pointer (some ⟨sb,0,none⟩)) ov e3) :: (Own.row w.heap.size 115 [pp,sv] :: (hb ++ (hl ++ (hr ++ (h3 ++ h4)))))) w u) =>
  (show Calls prog 80 #[.pointer (some ⟨w.heap.size,0,none⟩),.string ⟨S2.toArray⟩] u fun e w'=>e = .returned (.tuple #[.int .i64 ((⟨S2.toArray⟩:ByteArray).size:Int),.nilIface]) /\ ∃ sv' hb',Own.Buf 5 (L ++ S2) sv' hb' /\ Own.aA (hl ++ Own.row b 126 (flat RT 150 rb wb (.pointer (some ⟨sb,0,none⟩)) ov 0) :: (hr ++ (hw0 ++ hs0))) (Own.row b 126 (flat RT 150 rb wb (.pointer (some ⟨sb,0,none⟩)) ov e3) :: (Own.row w.heap.size 115 [.pointer (some ⟨w.heap.size,0,none⟩),sv'] :: (hb' ++ (hl ++ (hr ++ (h3 ++ h4)))))) w w' from by
   refine (Bld.aBp (b:=w.heap.size) (p:=pp) ⟨S2.toArray⟩ B (t.has.right (a:=[_])).left hpp (by rw [aL];exact hlen)).mono ?_;rintro e w' ⟨rfl,sv',hb',hB',t'⟩
   exact ⟨rfl,sv',hb',hB',t.trans (Own.aA.focus t.has (Own.aE _ ((Own.row w.heap.size 115 [pp,sv] :: hb) ++ (Own.row b 126 (flat RT 150 rb wb (.pointer (some ⟨sb,0,none⟩)) ov e3) :: (hl ++ (hr ++ (h3 ++ h4))))) (fun x=>by simp only [List.count_append,List.count_cons];omega)) (fun _=>t') (Own.aE _ _ (fun x=>by simp only [List.count_append,List.count_cons];omega)))⟩))
 have HFin:=hhh (fun (u:World) (pp sv:Value) (hb h3 h4 h5:Own.Heap) (e3:Nat) (t:Own.aA (hl ++ Own.row b 126 (flat RT 150 rb wb (.pointer (some ⟨sb,0,none⟩)) ov 0) :: (hr ++ (hw0 ++ hs0))) (Own.row b 126 (flat RT 150 rb wb (.pointer (some ⟨sb,0,none⟩)) ov e3) :: (Own.row w.heap.size 115 [pp,sv] :: (hb ++ (hl ++ (hr ++ (h3 ++ (h4 ++ h5))))))) w u) =>
  (show Own.aA (hl ++ Own.row b 126 (flat RT 150 rb wb (.pointer (some ⟨sb,0,none⟩)) ov 0) :: (hr ++ (hw0 ++ hs0))) (Own.row b 126 (flat RT 150 rb wb (.pointer (some ⟨sb,0,none⟩)) ov e3) :: (hr ++ (h3 ++ h5))) w u from (t.perm (.refl _) (Own.aE _ ((Own.row w.heap.size 115 [pp,sv] :: (hb ++ (hl ++ h4))) ++ (Own.row b 126 (flat RT 150 rb wb (.pointer (some ⟨sb,0,none⟩)) ov e3) :: (hr ++ (h3 ++ h5)))) (fun x=>by simp only [List.count_append,List.count_cons];omega))).forget))
 have HLess:=hhh (fun (u:World) (pp sv:Value) (hb h3 h4 h5:Own.Heap) (e3:Nat) (t:Own.aA (hl ++ Own.row b 126 (flat RT 150 rb wb (.pointer (some ⟨sb,0,none⟩)) ov 0) :: (hr ++ (hw0 ++ hs0))) (Own.row b 126 (flat RT 150 rb wb (.pointer (some ⟨sb,0,none⟩)) ov e3) :: (Own.row w.heap.size 115 [pp,sv] :: (hb ++ (hl ++ (hr ++ (h3 ++ (h4 ++ h5))))))) w u) =>
  (show Own.aA (hl ++ Own.row b 126 (flat RT 150 rb wb (.pointer (some ⟨sb,0,none⟩)) ov 0) :: (hr ++ (hw0 ++ hs0))) (Own.row b 126 (flat RT 150 rb wb (.pointer (some ⟨sb,0,none⟩)) ov e3) :: (Own.row w.heap.size 115 [pp,sv] :: (hb ++ (hl ++ (hr ++ (h3 ++ h5)))))) w u from (t.perm (.refl _) (Own.aE _ (h4 ++ (Own.row b 126 (flat RT 150 rb wb (.pointer (some ⟨sb,0,none⟩)) ov e3) :: (Own.row w.heap.size 115 [pp,sv] :: (hb ++ (hl ++ (hr ++ (h3 ++ h5))))))) (fun x=>by simp only [List.count_append,List.count_cons];omega))).forget))
 have T0:=hhh (((Own.aA.refl hw).aP w.heap.size rfl 115 [.pointer none,.slice none 0 0]).perm (.refl _)
  (Own.aE _ (Own.row b 126 (flat RT 150 rb wb (.pointer (some ⟨sb,0,none⟩)) ov 0) :: (Own.row w.heap.size 115 [.pointer none,.slice none 0 0] :: ([] ++ (hl ++ (hr ++ (hw0 ++ hs0)))))) (fun x=>by simp only [List.count_append,List.count_cons,List.count_nil];omega)))
 have HSet:=hhh (fun (u:World) (pp sv:Value) (hb h3 h4:Own.Heap) (e0 e3:Nat) (t:Own.aA (hl ++ Own.row b 126 (flat RT 150 rb wb (.pointer (some ⟨sb,0,none⟩)) ov 0) :: (hr ++ (hw0 ++ hs0))) (Own.row b 126 (flat RT 150 rb wb (.pointer (some ⟨sb,0,none⟩)) ov e0) :: (Own.row w.heap.size 115 [pp,sv] :: (hb ++ (hl ++ (hr ++ (h3 ++ h4)))))) w u)=>(show Own.aA (hl ++ Own.row b 126 (flat RT 150 rb wb (.pointer (some ⟨sb,0,none⟩)) ov 0) :: (hr ++ (hw0 ++ hs0))) (Own.row b 126 (flat RT 150 rb wb (.pointer (some ⟨sb,0,none⟩)) ov e3) :: (Own.row w.heap.size 115 [pp,sv] :: (hb ++ (hl ++ (hr ++ (h3 ++ h4)))))) w (u.setCell ⟨b,4,none⟩ (.int .i64 (e3:Int))) from t.set 4 (.int .i64 (e3:Int)) (by simp [flat])));clear hs hw hf hfine hN hp p0 iW iS hcl hce hRT hok hS0;go_enter func86,ntmps86;go_wp2_with (fail)
 go_loopw [27] (fun i wr => ∃ (j : Nat) (pp sv : Value) (hb hj hs : Own.Heap) (Wj : Cw) (sj : Stg), i = .int .i64 j ∧ j ≤ N ∧ Hid (∀ k, k < j → (p.ahead text (l.take (k + 1))).1.e = 0) ∧ Hid ((p.ahead text (l.take j)).1 = Pp.mk R (.pack Wj) (some sj) ov 0) ∧
   (pp = .pointer none \/ pp = .pointer (some ⟨w.heap.size,0,none⟩)) /\ Own.Buf 5 (p.ahead text (l.take j)).2 sv hb /\ Pk.Is Wj wb hj /\ sj.Is sb hs /\
   Own.aA (hl ++ Own.row b 126 (flat RT 150 rb wb (.pointer (some ⟨sb,0,none⟩)) ov 0) :: (hr ++ (hw0 ++ hs0))) (Own.row b 126 (flat RT 150 rb wb (.pointer (some ⟨sb,0,none⟩)) ov 0) :: (Own.row w.heap.size 115 [pp,sv] :: (hb ++ (hl ++ (hr ++ (hj ++ hs)))))) w wr) (fun i _=>N - (intOf i).toNat)
 case atStart=>exact ⟨0,_,_,[],hw0,hs0,W,S0,rfl,Nat.zero_le _,hhh fun k hk=>absurd hk (Nat.not_lt_zero _),hhh HP.o,.inl rfl,.none rfl,HIW.o,HIS.o,T0.o⟩
 case round =>
  obtain ⟨j,pp,sv,hb,hj,hs,Wj,sj,rfl,hjN,hz,hPj,hpp,hbuf,hij,hsj,ht⟩:=hrel;have HBuf:=hhh hbuf;have HIj:=hhh hij;have HSj:=hhh hsj;have TT:=hhh ht;have HPP:=hhh hpp;clear hbuf hij hsj ht hpp c1 c1' T0 HIW HIS;by_cases hlt:j < N
  ·have hjl:j < l.length:=by have:=HN.o;omega
   have hltI:(j:Int) < (N:Int):=by omega
   obtain ⟨tb,off,c2,e1,hcell⟩:=HS.o.rF (by rw [aI];omega);injection e1 with e1a e1b e1c
   subst e1a;clear e1b e1c;have k0:=hcell wr (TT.o.has.right (a:=[_,_])).right.left j l[j].val (by unfold aF;rw [List.getElem?_map,List.getElem?_eq_getElem hjl];rfl);clear hcell;have hq:=HFine.o _ (List.getElem_mem hjl);have hF:(Pp.mk R (.pack Wj) (some sj) ov 0).Fits (n + (l.take j).length):=by rw [<- hPj.out];exact HFits.o j
   have hF1:(Writer.pack Wj).Fits 91000:=hF.out.mono (by rw [List.length_take];omega);have hF2:=hF.hold sj rfl;have hg:=hF2.step l[j] hq;have hM:(sj.step l[j]).2.1.length <= 2001:=by have:=hg.few;have:=hF2.held;have:=hF2.size;have:=hF2.limit;omega
   have HGo:=hhh hg.fine;have HWf:=hhh (show Wj.Fits 91000 from hF1);have hlen:=hhh (HLens.o j);have hone:p.ahead text (l.take (j + 1))=(Pp.mk R (.pack ((sj.step l[j]).2.1.foldl Cw.feed ([],(sj.step l[j]).2.2,Wj)).2.2) (some (sj.step l[j]).1) ov ((sj.step l[j]).2.1.foldl Cw.feed ([],(sj.step l[j]).2.2,Wj)).2.1,(p.ahead text (l.take j)).2 ++ ((sj.step l[j]).2.1.foldl Cw.feed ([],(sj.step l[j]).2.2,Wj)).1):=by
    rw [show l.take (j + 1)=l.take j ++ [l[j]] from List.take_succ_eq_append_getElem hjl,Pp.fM,hPj.out,aGh]
   have HC:=hhh (fun o=>xV HSj.o ((TT.o.aD o).has.right (a:=[_,_])).right.right.right.right hF2 l[j] hq);generalize l[j]=q at k0 hq hone hM HGo HC;have Hone:=hhh hone;clear hone hF hF1 hF2 hg;generalize sj.step q=R2 at HC Hone hM HGo;obtain ⟨s2,ps,e3⟩:=R2;simp only at HC Hone hM HGo;obtain ⟨M,hM0⟩:∃ M,M=ps.length:=⟨_,rfl⟩;rw [<- hM0] at hM;have HM:=hhh hM0;clear hM0;have c4:=fun o=>(TT.o.aD o).has.cell b _ _ mcs 4 _ rfl
   have c2:=fun o=>(TT.o.aD o).has.cell b _ _ mcs 2 _ rfl
   obtain ⟨V,hV⟩:∃ V,V=q.val:=⟨_,rfl⟩;rw [<- hV] at k0 HC;have hY:=eR q;rw [<- hV] at hY;clear hV hq;have HStep:=hhh (fun (o:Obj) (u:World) (hv2 h3:Own.Heap) (t:Own.aA hs (hv2 ++ h3) (wr.alloc o) u)=>(show Own.aA (hl ++ Own.row b 126 (flat RT 150 rb wb (.pointer (some ⟨sb,0,none⟩)) ov 0) :: (hr ++ (hw0 ++ hs0))) (Own.row b 126 (flat RT 150 rb wb (.pointer (some ⟨sb,0,none⟩)) ov 0) :: (Own.row w.heap.size 115 [pp,sv] :: (hb ++ (hl ++ (hr ++ (hj ++ (hv2 ++ h3))))))) w u from (TT.o.aD o).trans (Own.aA.focus (TT.o.aD o).has (Own.aE _ (hs ++ (Own.row b 126 (flat RT 150 rb wb (.pointer (some ⟨sb,0,none⟩)) ov 0) :: (Own.row w.heap.size 115 [pp,sv] :: (hb ++ (hl ++ (hr ++ (hj ++ []))))))) (fun x=>by simp only [List.count_append,List.count_cons,List.count_nil];omega)) (fun _=>t) (Own.aE (Own.row b 126 (flat RT 150 rb wb (.pointer (some ⟨sb,0,none⟩)) ov 0) :: (Own.row w.heap.size 115 [pp,sv] :: (hb ++ (hl ++ (hr ++ (hj ++ (hv2 ++ h3))))))) _ (fun x=>by simp only [List.count_append,List.count_cons,List.count_nil];omega)))));rcases hY with rfl | ⟨VT,VX,rfl⟩
   all_goals
    go_wp2_with (fail);refine (HC.o _).mono ?_;rintro e5 w3 ⟨v2,hv2,hs',rfl,s3,i3,t3⟩;obtain ⟨a2,cc2,rfl⟩:=s3.len;rw [aI,<- HM.o] at s3 |-;have HS3:=hhh s3;have HI3:=hhh i3;have T3:=hhh (HStep.o _ _ _ _ t3);have g4:=T3.o.has.cell b _ _ mcs 4 _ rfl;have gf:=T3.o.has.free b _ _ mcs 4;have T4:=hhh (HSet.o _ _ _ _ _ _ _ e3 T3.o);clear s3 i3 t3 c4 c2 k0;go_wp2_with (fail)
    go_loopw [52] (fun i2 wr2 => ∃ (i : Nat) (pp2 sv2 : Value) (hb2 hj2 : Own.Heap) (W2 : Cw) (b2 : List UInt8) (e2 : Nat), i2 = .int .i64 i ∧ i ≤ M ∧ Hid ((ps.take i).foldl Cw.feed ([], e3, Wj) = (b2, e2, W2)) ∧
      (pp2 = .pointer none \/ pp2 = .pointer (some ⟨w.heap.size,0,none⟩)) /\ Own.Buf 5 ((p.ahead text (l.take j)).2 ++ b2) sv2 hb2 /\ Pk.Is W2 wb hj2 /\ Own.aA (hl ++ Own.row b 126 (flat RT 150 rb wb (.pointer (some ⟨sb,0,none⟩)) ov 0) :: (hr ++ (hw0 ++ hs0))) (Own.row b 126 (flat RT 150 rb wb (.pointer (some ⟨sb,0,none⟩)) ov e2) :: (Own.row w.heap.size 115 [pp2,sv2] :: (hb2 ++ (hl ++ (hr ++ (hj2 ++ (hv2 ++ hs'))))))) w wr2) (fun i2 _=>M - (intOf i2).toNat)
    case atStart=>exact ⟨0,pp,sv,hb,hj,Wj,[],e3,rfl,Nat.zero_le _,hhh rfl,HPP.o,by rw [List.append_nil];exact HBuf.o,HIj.o,T4.o⟩
    case round =>
     obtain ⟨i,pp2,sv2,hb2,hj2,W2,b2,e2,rfl,hiM,hfe,hpp2,hbuf2,hij2,ht2⟩:=hrel;have HBuf2:=hhh hbuf2;have HIj2:=hhh hij2;have TT2:=hhh ht2;have HPP2:=hhh hpp2;clear hbuf2 hij2 ht2 hpp2 g4 gf;have g4:=TT2.o.has.cell b _ _ mcs 4 _ rfl;by_cases hlt2:i < M
     ·have hil:i < ps.length:=by have:=HM.o;omega
      have hltI2:(i:Int) < (M:Int):=by omega
      obtain ⟨tb2,off2,cx,e1,hcell⟩:=HS3.o.rF (by rw [aI,<- HM.o];omega);injection e1 with e1a e1b e1c
      subst e1a;clear e1b e1c;have k1:=hcell wr (TT2.o.has.right (a:=[_,_])).right.right.right.right.left i ps[i].val (by unfold aF;rw [List.getElem?_map,List.getElem?_eq_getElem hil];rfl);have hx:=HGo.o _ (List.getElem_mem hil);have hnx:=aD5 ps ([],e3,Wj) i hil;rw [hfe.out] at hnx;have hfw:W2.Fits 95000:=by
       have:=aFw (ps.take i) (fun v hv=>HGo.o v (List.mem_of_mem_take hv)) e3 [] Wj 91000 HWf.o;rw [hfe.out] at this;exact this.mono (by rw [List.length_take];omega)
      have hbl:b2.length <= 300 * 2001:=by
       have:=aG0 (ps.take i) (fun v hv=>HGo.o v (List.mem_of_mem_take hv)) e3 Wj;rw [hfe.out] at this;have h2:(ps.take i).length <= 2001:=by rw [List.length_take];omega
       have h3:b2.length <= 300 * (ps.take i).length:=this;omega
      by_cases h0:e2=0
      ·subst h0
       rw [show Cw.feed (b2,0,W2) ps[i]=(b2 ++ (W2.pack ps[i]).1,(W2.pack ps[i]).2.1,(W2.pack ps[i]).2.2) from rfl] at hnx;have hpl:=rM W2 ps[i] hx;have HC2:=hhh (Pk.dN HIj2.o (TT2.o.has.right (a:=[_,_])).right.right.right.left hfw (by omega) ps[i] hx);generalize ps[i]=x at k1 hx hnx hpl HC2;generalize W2.pack x=R5 at hnx hpl HC2;obtain ⟨b5,e5,W5⟩:=R5;simp only at hnx hpl HC2;have Hnx:=hhh hnx;obtain ⟨VX2,hVX⟩:∃ VX2,VX2=x.val:=⟨_,rfl⟩;rw [<- hVX] at k1 HC2
       have HLn:=hhh (show ((p.ahead text (l.take j)).2 ++ b2).length + b5.length <= 1000000000 by
        have h1:=hlen.o;have h2:300 * (p.bM + (l.take j).length) <= 300 * 2018:=Nat.mul_le_mul_left _ (by have:=HHl.o;rw [List.length_take];omega);rw [lla]
        omega)
       have HStep2:=hhh (fun (u:World) (h5:Own.Heap) (t:Own.aA hj2 h5 wr u)=>(show Own.aA (hl ++ Own.row b 126 (flat RT 150 rb wb (.pointer (some ⟨sb,0,none⟩)) ov 0) :: (hr ++ (hw0 ++ hs0))) (Own.row b 126 (flat RT 150 rb wb (.pointer (some ⟨sb,0,none⟩)) ov 0) :: (Own.row w.heap.size 115 [pp2,sv2] :: (hb2 ++ (hl ++ (hr ++ (h5 ++ (hv2 ++ hs'))))))) w u from TT2.o.trans (Own.aA.focus TT2.o.has (Own.aE _ (hj2 ++ (Own.row b 126 (flat RT 150 rb wb (.pointer (some ⟨sb,0,none⟩)) ov 0) :: (Own.row w.heap.size 115 [pp2,sv2] :: (hb2 ++ (hl ++ (hr ++ ([] ++ (hv2 ++ hs')))))))) (fun x=>by simp only [List.count_append,List.count_cons,List.count_nil];omega)) (fun _=>t) (Own.aE (Own.row b 126 (flat RT 150 rb wb (.pointer (some ⟨sb,0,none⟩)) ov 0) :: (Own.row w.heap.size 115 [pp2,sv2] :: (hb2 ++ (hl ++ (hr ++ (h5 ++ (hv2 ++ hs'))))))) _ (fun x=>by simp only [List.count_append,List.count_cons,List.count_nil];omega)))));clear hcell hx hnx hfw hbl hpl hVX;go_wp2_with (fail);refine HC2.o.mono ?_;rintro e6 w5 ⟨rfl,h5,i5,t5⟩;have I5:=hhh i5;have T5:=hhh (HStep2.o _ _ t5);have f4:=T5.o.has.cell b _ _ mcs 4 _ rfl;have ff:=T5.o.has.free b _ _ mcs 4;have T6:=hhh (HSet.o _ _ _ _ _ _ _ e5 T5.o);have HW6:=hhh (HWS.o _ _ b5 _ _ _ _ _ _ HLn.o HPP2.o HBuf2.o T6.o);clear i5 t5 g4 k1;go_wp2_with (fail);refine HW6.o.mono ?_;rintro e7 w7 ⟨rfl,sv7,hb7,B7,t7⟩;have T7:=hhh t7;have HB7:=hhh B7;clear t7 B7 f4 ff;go_wp2_with (fail);go_roundw
       case rel=>exact ⟨i + 1,_,sv7,hb7,h5,W5,b2 ++ b5,e5,by go_num,by omega,hhh Hnx.o,.inr rfl,by rw [<- List.append_assoc];exact HB7.o,I5.o,T7.o⟩
       case measure=>simp [intOf];omega
      ·have h0':((e2:Int) == 0)=false:=by rw [bfn];omega
       have Hnx:=hhh (hnx.trans (show Cw.feed (b2,e2,W2) ps[i]=(b2,e2,W2) from ifp h0));generalize ps[i]=x at k1 hx hnx;generalize x.val=VX2 at k1;clear hcell hx hnx hfw hbl h0;go_wp2_with (fail);go_roundw
       case rel=>exact ⟨i + 1,pp2,sv2,hb2,hj2,W2,b2,e2,by go_num,by omega,hhh Hnx.o,HPP2.o,HBuf2.o,HIj2.o,TT2.o⟩
       case measure=>simp [intOf];omega
     ·have hge2:(M:Int) <= (i:Int):=by omega
      obtain rfl:i=M:=by omega
      have hfe':=hfe.out;rw [show ps.take i=ps from by rw [HM.o];exact List.take_length] at hfe';have Ho2:=Hone.o;rw [hfe'] at Ho2;have HO2:=hhh (show p.ahead text (l.take (j + 1))=(Pp.mk R (.pack W2) (some s2) ov e2,(p.ahead text (l.take j)).2 ++ b2) from Ho2);clear hfe' Ho2;by_cases h0:e2=0
      ·subst h0
       have TL:=hhh (HLess.o _ _ _ _ _ _ _ _ TT2.o);go_wp2_with (fail);go_roundw
       case rel=>exact ⟨j + 1,pp2,sv2,hb2,hj2,hs',W2,s2,by go_num,by omega,hhh (fun k hk=>by
        by_cases hkj:k < j
        ·exact hz.out k hkj
        ·obtain rfl:k=j:=by omega
         rw [HO2.o]),hhh (by rw [HO2.o]),HPP2.o,by rw [HO2.o];exact HBuf2.o,HIj2.o,HI3.o,TL.o⟩
       case measure=>simp [intOf];omega
      ·have h0':((e2:Int) != 0)=true:=by rw [bne_iff_ne];omega
       have HPW:=HStop.o j hjl hz.out (by rw [HO2.o];exact h0);rw [HO2.o] at HPW;have HPw:=hhh HPW;clear h0 HPW;go_wp2_with (fail);go_region_with (go_at_call 81;(first | refine (HStr.o _ _ _ _ _ _ _ _ HBuf2.o TT2.o.drew).mono ?_ | refine (HStr.o _ _ _ _ _ _ _ _ HBuf2.o (TT2.o.drewN _)).mono ?_ | refine (HStr.o _ _ _ _ _ _ _ _ HBuf2.o TT2.o).mono ?_);rintro e8 w8 ⟨rfl,hb8,t8⟩;have T8:=hhh t8;have d8:=T8.o.has.cell b _ _ mcs 4 _ rfl;clear t8)
       all_goals
        go_wp2;go_ret2;rw [HPw.o];exact ⟨_,rfl,HIs.o W2 s2 e2 hj2 hs' HIj2.o HI3.o,HFin.o _ _ _ _ _ _ _ _ T8.o⟩
  ·have hge:(N:Int) <= (j:Int):=by omega
   obtain rfl:j=N:=by omega
   have hE:=HEnd.o (by rw [<- HN.o];exact hz.out);have hta:l.take j=l:=by rw [HN.o];exact List.take_length
   rw [hta] at hPj HBuf;rw [hPj.out] at hE;have HE:=hhh hE;have c4:=TT.o.has.cell b _ _ mcs 4 _ rfl;have f4:=TT.o.has.free b _ _ mcs 4;have T1:=hhh (HSet.o _ _ _ _ _ _ _ e TT.o);have HS1:=hhh (HStr.o _ _ _ _ _ _ _ _ HBuf.o T1.o);clear hE hta;go_wp2_with (fail);refine HS1.o.mono ?_;rintro e6 w6 ⟨rfl,hb6,t6⟩;have T6:=hhh t6;clear t6;go_wp2;go_ret2;rw [HE.o];exact ⟨_,rfl,HIs.o Wj sj e hj hs HIj.o HSj.o,HFin.o _ _ _ _ _ [] _ _ T6.o⟩
end Pip
end
section
open Go.RowKit
open Json (Part Wr)
namespace Pip
theorem gR (text:Part -> List UInt8):yB 3 300 (fun _=>True) text 0 (fun _=>True) where
 wok:=yE text
 write hi hf hn hk he l hl hfine hs hw _ _ _:=aBs text hi hf hn hk he l hl (fun v hv=>(hfine v hv).1) hs hw
def s18:Setup:=⟨1,3,2,9,0⟩
theorem reads_cbor:Reads 2 where
 step r hk b n h w hi hw hf hn x:=by
  cases r with
  | json p=>cases hk
  | bB p=>exact xP (p:=p) hi hw hf hn x
  | pack p=>cases hk
theorem reads_pack:Reads 3 where
 step r hk b n h w hi hw hf hn x:=by
  cases r with
  | json p=>cases hk
  | bB p=>cases hk
  | pack p=>exact yX (p:=p) hi hw hf hn x
end Pip
end
section
open Go.RowKit
open Json (Part Wr Txt)
namespace Pip
section
variable {ok:Part -> Prop} {text:Part -> List UInt8} {B:Nat} {Tb:World -> Prop}
theorem xB (TX:Txt ok text B Tb):Wok 1 6012 ok text B Tb where
 step W hk wb n h w hi hw hf hn hB hT p _ hp:=by
  cases W with
  | json W=>exact Json.dN (W:=W) hi hw ⟨hf.1,hf.2⟩ hn TX hB hT p hp
  | bB W=>cases hk
  | pack W=>cases hk
 len W hk p _ hp:=by
  cases W with
  | json W=>exact Nat.le_succ_of_le (Json.Wr.eH TX W p hp)
  | bB W=>cases hk
  | pack W=>cases hk
 of:=TX.of
 stage h:=by cases h
 room:=by decide
theorem gT (TX:Txt ok text B Tb):yB 1 6012 ok text B Tb where
 wok:=xB TX
 write hi hf hn hk he l hl hfine hs hw hB hBw hT:=aAi (xB TX) hi hf hn hk he l hl hfine hs hw hB hBw hT
theorem lQ (r:Reader):Reads r.kind:=by
 cases r with
 | json p=>exact reads_json
 | bB p=>exact reads_cbor
 | pack p=>exact reads_pack
end
def textN:Part -> List UInt8:=fun _=>[110,117,108,108]
def Pp.aLx (ok:Part -> Bool) (text:Part -> List UInt8):Pp -> List UInt8 -> Bool
 | p,[]=>p.may != 0 || p.input.fin.2.1.all ok
 | p,x :: b=>(p.may != 0 || (p.input.step x).2.1.all ok) && (p.step text x).1.aLx ok text b
end Pip
end
end Go.Proofs.YtcjflgmcjfcodaaGreat
