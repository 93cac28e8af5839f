/- Texts of the walk, joined. -/
import Derived.Test.YtcjflgmcjfcodaaGreatM15
import Derived.Test.YtcjflgmcjfcodaaGreatM19
import Derived.Test.YtcjflgmcjfcodaaGreatM21
set_option maxRecDepth 100000
set_option maxHeartbeats 8000000
namespace Go.Proofs.Tryz end Go.Proofs.Tryz
namespace Go.Proofs.YtcjflgmcjfcodaaGreat
open Go.Proofs.Tryz
section
open Go.RowKit
open Json (Part)
namespace Pip
theorem Lex.iK (l:Lex) (x:UInt8):(l.aK x).2.length <= 1:=by
 rcases mP l x with h | ⟨t,h⟩ <;> rw [h] <;> simp
theorem Lex.nF (l:Lex):l.ended.2.length <= 1:=by
 unfold Lex.ended
 repeat' split
 all_goals simp
theorem Lex.aJc (l:Lex) (x:UInt8):(l.act x).2.length <= 2:=by
 unfold Lex.act;split
 ·unfold Lex.text
  repeat' split
  all_goals simp
 ·split
  ·unfold Lex.word
   repeat' split
   all_goals simp
  ·split
   ·unfold Lex.number
    dsimp only
    repeat' split
    all_goals
     simp only [lla,List.length_nil]
     first
     | omega
     | exact Nat.le_trans (Nat.add_le_add (Lex.nF _) (Lex.iK _ _)) (Nat.le_refl _)
     | exact Nat.le_trans (Lex.iK _ _) (by decide)
     | exact Nat.le_trans (Lex.nF _) (by decide)
     | (have h2 := Lex.iK l x
        omega)
   ·have:=Lex.iK l x
    omega
theorem Lex.eH (l:Lex) (x:UInt8):(l.step x).2.1.length <= 2:=by
 have:=Lex.aJc l x;unfold Lex.step
 repeat' split
 all_goals simp
 omega
theorem Lex.fF (l:Lex):l.fin.2.1.length <= 2:=by
 have:=Lex.nF l;unfold Lex.fin
 repeat' split
 all_goals simp
 omega
section
variable {p:Jin} {b:Nat} {h:Own.Heap} {w:World}
theorem yK (hf : p.Fits) (he : p.e = 0) (O : Lex × List Tok × Nat) (hO : O.1.Fits) (hn : O.2.1.length ≤ 2) {mv : Value} {hm hl : Own.Heap} (hs : Own.Slc 4 (p.maps.map Value.bool) mv hm)
  (hw:Own.Has w (hl ++ hm)) (w1:World) (v:Value) (hv hl':Own.Heap) (s1:Own.Slk 4 210 O.2.1.length (cR O.2.1) v hv)
  (i1:O.1.Is b [.int .i64 (p.depth:Int),mv,.int .i64 (p.next:Int),.int .i64 (p.e:Int)] hl') (t1:Own.aA hl (hv ++ hl') w w1) :
  Calls prog 108 #[.pointer (some ⟨b,0,none⟩),v,.int .i64 (O.2.2:Int)] w1 (mH ((p.on O.1).parts O.2.1 O.2.2) b (hl ++ hm) w):=by
 have T1:Own.aA (hl ++ hm) (hv ++ (hl' ++ hm)) w w1:=by
  have:=t1.frame hw
  rwa [List.append_assoc] at this
 refine (aE9 (p:=p.on O.1) ⟨mv,hm,hl',hs,i1,rfl⟩ (hf.on hO) he O.2.1 v hv s1 T1.has O.2.2 (by omega)).mono ?_;rintro e w2 ⟨v2,hv2,h2,rfl,s2,i2,t2⟩;exact ⟨v2,hv2,h2,rfl,s2,i2,T1.trans t2⟩
theorem aEe (hi : p.Is b h) (hw : Own.Has w h) (hf : p.Fits) (x : UInt8) :
  Calls prog 148 #[.pointer (some ⟨b,0,none⟩),.int .u8 (x.toNat:Int)] w (mH (p.step x) b h w):=by
 obtain ⟨c26,-⟩:=hi.eG hw;have HW:=hhh hw;by_cases he:p.e=0
 ·obtain ⟨mv,hm,hl,hs,il,rfl⟩:=hi
  have HP:=hhh (show p.step x=(p.on (p.l.step x).1).parts (p.l.step x).2.1 (p.l.step x).2.2 by unfold Jin.step;rw [ifn (by omega)]);have HL:=hhh (aD4 il hw.left hf.l x);have HQ:=hhh (yK (b:=b) hf he (p.l.step x) (hf.l.step x).1 (Lex.eH _ _) hs hw);generalize p.l.step x=O at HP HL HQ;generalize p.step x=PS at HP |-;rw [he] at c26;clear hw hf hs il he;go_enter func148,ntmps148;go_wp2_with (fail);refine HL.o.mono ?_;rintro e1 w1 ⟨v,hv,hl',rfl,s1,i1,t1⟩;have HR:=hhh (HQ.o w1 v hv hl' s1 i1 t1);rw [<- HP.o] at HR;clear s1 i1 t1;go_wp2_with (fail);refine HR.o.mono ?_;rintro e2 w2 ⟨v2,hv2,h2,rfl,s2,i2,t2⟩;go_wp2;go_ret2;exact ⟨v2,hv2,h2,rfl,s2,i2,t2⟩
 ·have HP:=hhh (show p.step x=(p,[],p.e) by unfold Jin.step;rw [ifp he])
  have hmb:((p.e:Int) != 0)=true:=by simp;omega
  have HI:=hhh hi;generalize p.step x=PS at HP |-;clear hi hw hf he;go_enter func148,ntmps148;go_wp2_with (fail);go_quiet (fail);go_wp2;go_ret2;rw [HP.o];exact ⟨_,[],h,rfl,.bare _ rfl,HI.o,(Own.aA.refl HW.o).drewN _⟩
theorem aH0 (hi : p.Is b h) (hw : Own.Has w h) (hf : p.Fits) :
  Calls prog 85 #[.pointer (some ⟨b,0,none⟩)] w (mH p.fin b h w):=by
 obtain ⟨c26,-⟩:=hi.eG hw;have HW:=hhh hw;by_cases he:p.e=0
 ·obtain ⟨mv,hm,hl,hs,il,rfl⟩:=hi
  obtain ⟨O,hO⟩:∃ O,O=p.l.fin:=⟨_,rfl⟩
  have HP:=hhh (show p.fin=if ((p.on O.1).parts O.2.1 O.2.2).2.2=0 /\ ((p.on O.1).parts O.2.1 O.2.2).1.next ≠ 6 then (⟨((p.on O.1).parts O.2.1 O.2.2).1.l,((p.on O.1).parts O.2.1 O.2.2).1.depth,((p.on O.1).parts O.2.1 O.2.2).1.maps,((p.on O.1).parts O.2.1 O.2.2).1.next,3⟩,((p.on O.1).parts O.2.1 O.2.2).2.1,3) else (((p.on O.1).parts O.2.1 O.2.2).1,((p.on O.1).parts O.2.1 O.2.2).2.1,((p.on O.1).parts O.2.1 O.2.2).1.e) by
   unfold Jin.fin;rw [ifn (by omega),hO])
  have HL:=hhh (aGc il hw.left hf.l);have HQ:=hhh (yK (b:=b) hf he O (by rw [hO];exact hf.l.fin.1) (by rw [hO];exact Lex.fF _) hs hw);rw [<- hO] at HL;generalize p.fin=PS at HP |-;generalize (p.on O.1).parts O.2.1 O.2.2=R at HP HQ;rw [he] at c26;clear hw hf hs il he hO;go_enter func85,ntmps85;go_wp2_with (fail);refine HL.o.mono ?_;rintro e1 w1 ⟨v,hv,hl',rfl,s1,i1,t1⟩;have HR:=hhh (HQ.o w1 v hv hl' s1 i1 t1);clear s1 i1 t1;go_wp2_with (fail);refine HR.o.mono ?_;rintro e2 w2 ⟨v2,hv2,h2,rfl,s2,i2,t2⟩;have S2:=hhh s2;have I2:=hhh i2;have T2:=hhh t2;have cn:=i2.aDg t2.has.right;obtain ⟨ce,fe⟩:=i2.eG t2.has.right;obtain ⟨l2,ps,e⟩:=R;simp only at HP S2 I2 T2 cn ce;clear s2 i2 t2;by_cases hc:e=0 /\ l2.next ≠ 6
  ·obtain ⟨rfl,hn⟩:=hc
   have hnb:((l2.next:Int) != 6)=true:=by simp;omega
   obtain ⟨h3,i3,t3⟩:=I2.o.aC3 (Own.aA.refl T2.o.has.right) 3;have I3:=hhh i3;have T3:=hhh (T2.o.trans (t3.behind T2.o.has));have ce3:=(i3.eG t3.has).1;have HP2:=hhh (HP.o.trans (ifp ⟨rfl,hn⟩));clear i3 t3;go_wp2_with (fail);go_quiet (fail);go_wp2;go_ret2;rw [HP2.o];exact ⟨_,hv2,h3,rfl,S2.o,I3.o,T3.o.drewN _⟩
  ·have HP2:=hhh (HP.o.trans (ifn hc))
   by_cases h0:e=0
   ·subst h0
    have hn:(l2.next:Int)=6:=by
     by_cases h6:l2.next=6
     ·omega
     ·exact absurd ⟨rfl,h6⟩ hc
    rw [hn] at cn;clear hc;go_wp2_with (fail);go_quiet (fail);go_wp2;go_ret2;rw [HP2.o];exact ⟨_,hv2,h2,rfl,S2.o,I2.o,T2.o.drewN _⟩
   ·have hb:((e:Int) == 0)=false:=by rw [bfn];omega
    clear hc;go_wp2_with (fail);go_quiet (fail);go_wp2;go_ret2;rw [HP2.o];exact ⟨_,hv2,h2,rfl,S2.o,I2.o,T2.o.drewN _⟩
 ·have HP:=hhh (show p.fin=(p,[],p.e) by unfold Jin.fin;rw [ifp he])
  have hmb:((p.e:Int) != 0)=true:=by simp;omega
  have HI:=hhh hi;generalize p.fin=PS at HP |-;clear hi hw hf he;go_enter func85,ntmps85;go_wp2_with (fail);go_quiet (fail);go_wp2;go_ret2;rw [HP.o];exact ⟨_,[],h,rfl,.bare _ rfl,HI.o,(Own.aA.refl HW.o).drewN _⟩
end
end Pip
end
section
namespace Pip
open Json (Part Wr)
def Reader.Fits:Reader -> Nat -> Prop
 | .json p,_=>p.Fits
 | .bB p,n=>p.Fits n
 | .pack p,n=>p.Fits n
theorem Reader.Fits.mono {r:Reader} {n m:Nat} (h:r.Fits n) (k:n <= m):r.Fits m:=by
 cases r with
 | json p=>exact h
 | bB p=>exact Cin.Fits.mono h k
 | pack p=>exact Pin.Fits.mono h k
structure Reader.Good (o:Reader × List Part × Nat) (n:Nat):Prop where
 fits:o.1.Fits n
 fine:∀ x ∈ o.2.1,Fine x
 few:o.2.1.length <= 18
theorem Jin.parts_len:∀ (l:List Tok) (p:Jin) (e:Nat),(p.parts l e).2.1.length <= l.length
 | [],p,e=>Nat.le_refl _
 | t :: l,p,e=>by
  unfold Jin.parts
  split
  ·exact Nat.zero_le _
  ·have h1:=Jin.parts_len l (p.token t).1 e
   have h2:(p.token t).2.toList.length <= 1:=by cases (p.token t).2 <;> simp
   simp only [lla,List.length_cons]
   omega
theorem Jin.eH (p:Jin) (b:UInt8):(p.step b).2.1.length <= 2:=by
 unfold Jin.step;split
 ·exact Nat.zero_le _
 ·exact Nat.le_trans (Jin.parts_len _ _ _) (Lex.eH _ _)
theorem Jin.fF (p:Jin):p.fin.2.1.length <= 2:=by
 unfold Jin.fin;split
 ·exact Nat.zero_le _
 ·have h:=Nat.le_trans (Jin.parts_len p.l.fin.2.1 (p.on p.l.fin.1) p.l.fin.2.2) (Lex.fF _)
  dsimp only
  split <;> exact h
theorem Reader.eU {r:Reader} {n:Nat} (h:r.Fits n) (b:UInt8):Reader.Good (r.step b) (n + 1):=by
 cases r with
 | json p =>
  have h:p.Fits:=h;exact ⟨(h.step b).1,h.aDd b,Nat.le_trans (Jin.eH p b) (by decide)⟩
 | bB p =>
  have h:p.Fits n:=h;have g:=(Cin.eU h b).1;exact ⟨g.fits,g.fine,g.few⟩
 | pack p =>
  have h:p.Fits n:=h;have g:=(Pin.eU h b).1;exact ⟨g.fits,g.fine,g.few⟩
theorem Reader.qJ {r:Reader} {n:Nat} (h:r.Fits n):Reader.Good r.fin n:=by
 cases r with
 | json p =>
  have h:p.Fits:=h;exact ⟨h.fin.1,h.aHa,Nat.le_trans (Jin.fF p) (by decide)⟩
 | bB p=>exact ⟨h,(fun x hx=>by cases hx),Nat.zero_le _⟩
 | pack p=>exact ⟨h,(fun x hx=>by cases hx),Nat.zero_le _⟩
theorem Reader.Fits.new (f:Int) (d:Nat) (h:d <= 16):(Reader.new f d).Fits 0:=by
 unfold Reader.new;split
 ·exact Jin.Fits.new d h
 ·split
  ·exact Cin.Fits.new d h
  ·exact Pin.Fits.new d h
def Writer.kind:Writer -> Nat
 | .json _=>1
 | .bB _=>2
 | .pack _=>3
def Writer.Fits:Writer -> Nat -> Prop
 | .json w,n=>w.opened.length <= n /\ ∀ c ∈ w.opened,c.parts <= n
 | .bB w,n=>w.Fits n
 | .pack w,n=>w.Fits n
theorem Writer.Fits.mono {w:Writer} {n m:Nat} (h:w.Fits n) (k:n <= m):w.Fits m:=by
 cases w with
 | json p=>exact ⟨Nat.le_trans h.1 k,fun c hc=>Nat.le_trans (h.2 c hc) k⟩
 | bB p=>exact Cw.Fits.mono h k
 | pack p=>exact Cw.Fits.mono h k
theorem Writer.nE (text:Part -> List UInt8) (w:Writer) (p:Part):(w.step text p).2.2.kind=w.kind:=by
 cases w <;> rfl
theorem vQ {w:Wr} {n:Nat} (h:w.opened.length <= n /\ ∀ c ∈ w.opened,c.parts <= n) (text:Part -> List UInt8) (p:Part):(w.step text p).2.2.opened.length <= n + 1 /\ ∀ c ∈ (w.step text p).2.2.opened,c.parts <= n + 1:=by
 have h':w.opened.length <= n + 1 /\ ∀ c ∈ w.opened,c.parts <= n + 1:=⟨Nat.le_succ_of_le h.1,fun c hc=>Nat.le_succ_of_le (h.2 c hc)⟩;have hd:∀ x ∈ w.opened.dropLast,x.parts <= n + 1:=fun x hx=>h'.2 x ((List.dropLast_sublist _).subset hx)
 have hlen:w.opened.dropLast.length <= n:=by have:=h.1;simp;omega
 unfold Wr.step;split
 ·exact h'
 ·cases p with
  | close =>
   dsimp only
   split
   ·exact h'
   ·split
    ·exact h'
    ·exact ⟨by show w.opened.dropLast.length <= _;omega,hd⟩
  | _ =>
   dsimp only
   split
   ·first
    | exact ⟨Nat.zero_le _,fun c hc=>by cases hc⟩
    | exact ⟨by simp,fun c hc=>by rw [List.mem_singleton.1 hc];exact Nat.zero_le _⟩
   ·rename_i c hc
    have hm:c ∈ w.opened:=List.mem_of_getLast? hc;have hcn:=h.2 c hm;have hpos:0 < w.opened.length:=List.length_pos_of_mem hm;have hd1:=h.1;split
    ·exact h'
    ·refine ⟨by simp;omega,fun x hx=>?_⟩
     simp only [List.mem_append,List.mem_singleton] at hx;rcases hx with hx | hx
     all_goals first
      | exact hd x hx
      | (subst hx;show c.parts + 1 <= _;omega)
      | skip
     all_goals first
      | (rcases hx with hx | hx <;> first | exact hd x hx | (subst hx;show c.parts + 1 <= _;omega))
      | (subst hx;exact Nat.zero_le _)
theorem Writer.Fits.step {w:Writer} {n:Nat} (h:w.Fits n) (text:Part -> List UInt8) (p:Part) (hp:Fine p):(w.step text p).2.2.Fits (n + 1):=by
 cases w with
 | json p=>exact vQ h text _
 | bB p=>exact Cw.Fits.bB h _ hp
 | pack p=>exact Cw.Fits.pack h _ hp
theorem Writer.Fits.new (f:Int):(Writer.new f).Fits 0:=by
 unfold Writer.new;split
 ·exact ⟨Nat.le_refl _,fun c hc=>by cases hc⟩
 ·split
  ·exact Cw.Fits.new
  ·exact Cw.Fits.new
theorem Writer.iY (text:Part -> List UInt8):∀ (l:List Part) (w:Writer),(w.some text l).2.2.kind=w.kind
 | [],w=>rfl
 | p :: l,w=>by
  unfold Writer.some
  split
  ·exact Writer.nE text w p
  ·exact (Writer.iY text l _).trans (Writer.nE text w p)
theorem Writer.Fits.some (text:Part -> List UInt8):∀ (l:List Part) {w:Writer} {n:Nat},w.Fits n -> (∀ p ∈ l,Fine p) -> (w.some text l).2.2.Fits (n + l.length)
 | [],w,n,h,_=>h
 | p :: l,w,n,h,hl=>by
  have h1:=h.step text p (hl p mcs)
  unfold Writer.some
  split
  ·exact h1.mono (by simp only [List.length_cons];omega)
  ·exact (Writer.Fits.some text l h1 fun q hq=>hl q (mcm _ hq)).mono (by simp only [List.length_cons];omega)
def Pp.bM (p:Pp):Nat:=match p.hold with | none=>0 | some s=>s.held.length
structure Pp.Fits (p:Pp) (n:Nat):Prop where
 input:p.input.Fits n
 hold:∀ s,p.hold=some s -> s.Fits
 output:∃ m,p.output.Fits m /\ m + p.bM <= n
 kind:p.hold.isSome=(p.output.kind == 3)
theorem Pp.Fits.mono {p:Pp} {n m:Nat} (h:p.Fits n) (k:n <= m):p.Fits m :=
 ⟨h.input.mono k,h.hold,by obtain ⟨j,h1,h2⟩:=h.output;exact ⟨j,h1,by omega⟩,h.kind⟩
theorem Pp.Fits.out {p:Pp} {n:Nat} (h:p.Fits n):p.output.Fits n:=by
 obtain ⟨j,h1,h2⟩:=h.output;exact h1.mono (by omega)
theorem Pp.Fits.one {p:Pp} {n:Nat} (h:p.Fits n) (text:Part -> List UInt8) (v:Part) (hv:Fine v):(p.one text v).1.Fits (n + 1):=by
 obtain ⟨j,h1,h2⟩:=h.output;have hk:=h.kind;unfold Pp.bM at h2;unfold Pp.one
 cases hh:p.hold with
 | none =>
  rw [hh] at h2 hk;simp only at h2 |-;exact ⟨h.input.mono (Nat.le_succ _),(fun s hs=>by cases hs),⟨j + 1,h1.some text [v] fun q hq=>by rw [List.mem_singleton.1 hq];exact hv,by show j + 1 + 0 <= n + 1;omega⟩,by simp only [Writer.iY];exact hk⟩
 | some s =>
  rw [hh] at h2 hk;simp only at h2 |-;have g:=(h.hold s hh).step v hv;have hf:=g.few;split
  ·exact ⟨h.input.mono (Nat.le_succ _),(fun x hx=>by cases hx;exact g.fits),⟨j,h1,by show j + (s.step v).1.held.length <= n + 1;omega⟩,hk⟩
  ·exact ⟨h.input.mono (Nat.le_succ _),(fun x hx=>by cases hx;exact g.fits),⟨j + (s.step v).2.1.length,h1.some text _ g.fine,by show j + (s.step v).2.1.length + (s.step v).1.held.length <= n + 1;omega⟩,by simp only [Writer.iY];exact hk⟩
def Pp.ahead (text:Part -> List UInt8):Pp -> List Part -> Pp × List UInt8
 | p,[]=>(p,[])
 | p,v :: l=>(((p.one text v).1.ahead text l).1,(p.one text v).2 ++ ((p.one text v).1.ahead text l).2)
theorem Pp.fM (text:Part -> List UInt8) (l:List Part) (v:Part):∀ p:Pp,p.ahead text (l ++ [v])=(((p.ahead text l).1.one text v).1,(p.ahead text l).2 ++ ((p.ahead text l).1.one text v).2):=by
 induction l with
 | nil=>intro p;simp [Pp.ahead]
 | cons x l ih=>intro p;simp [Pp.ahead,ih]
theorem Pp.oA (text : Part → List UInt8) (l : List Part) (e k : Nat) (p : Pp) (hk : ∀ j, j < k → (p.ahead text (l.take (j + 1))).1.e = 0) (hkl : k ≤ l.length) :
  p.write text l e=(((p.ahead text (l.take k)).1.write text (l.drop k) e).1,(p.ahead text (l.take k)).2 ++ ((p.ahead text (l.take k)).1.write text (l.drop k) e).2.1,((p.ahead text (l.take k)).1.write text (l.drop k) e).2.2):=by
 induction k generalizing p l with
 | zero=>simp [Pp.ahead]
 | succ k ih =>
  cases l with
  | nil=>simp at hkl
  | cons t l =>
   have h0:(p.one text t).1.e=0:=by
    have:=hk 0 (by omega);simpa [Pp.ahead] using this
   have:=ih l (p.one text t).1 (fun j hj=>by
    have:=hk (j + 1) (by omega)
    simpa [Pp.ahead] using this) (by simp at hkl;omega)
   rw [Pp.write,ifn (by simp [h0]),this];simp [Pp.ahead]
theorem Pp.Fits.ahead (text:Part -> List UInt8):∀ (l:List Part) {p:Pp} {n:Nat},p.Fits n -> (∀ v ∈ l,Fine v) -> (p.ahead text l).1.Fits (n + l.length)
 | [],p,n,h,_=>h
 | v :: l,p,n,h,hl=>(Pp.Fits.ahead text l (h.one text v (hl v mcs)) fun q hq=>hl q (mcm _ hq)).mono (by simp only [List.length_cons];omega)
theorem Pp.Fits.write (text:Part -> List UInt8) (e:Nat):∀ (l:List Part) {p:Pp} {n:Nat},p.Fits n -> (∀ v ∈ l,Fine v) -> (p.write text l e).1.Fits (n + l.length)
 | [],p,n,h,_=>⟨h.input,h.hold,h.output,h.kind⟩
 | v :: l,p,n,h,hl=>by
  have h1:=h.one text v (hl v mcs)
  unfold Pp.write
  split
  ·exact h1.mono (by simp only [List.length_cons];omega)
  ·exact (Pp.Fits.write text e l h1 fun q hq=>hl q (mcm _ hq)).mono (by simp only [List.length_cons];omega)
theorem Pp.Fits.on {p:Pp} {n m:Nat} (h:p.Fits n) (k:n <= m) {r:Reader} (hr:r.Fits m) (o:Bool):(Pp.mk r p.output p.hold o p.e).Fits m:=by
 obtain ⟨j,h1,h2⟩:=h.output;exact ⟨hr,h.hold,⟨j,h1,Nat.le_trans h2 k⟩,h.kind⟩
theorem Pp.Fits.step {p:Pp} {n:Nat} (h:p.Fits n) (text:Part -> List UInt8) (b:UInt8):(p.step text b).1.Fits (n + 19):=by
 unfold Pp.step;split
 ·exact h.mono (by omega)
 ·have g:=Reader.eU h.input b
  have:=g.few;exact ((h.on (Nat.le_succ n) g.fits p.over).write text _ _ g.fine).mono (by omega)
theorem Pp.Fits.new (s:Setup) (hr:right s=true):(Pp.new s).Fits 0:=by
 unfold right at hr;simp only [Bool.and_eq_true,decide_eq_true_eq] at hr;obtain ⟨⟨⟨⟨⟨⟨⟨⟨⟨r1,r2⟩,r3⟩,r4⟩,r5⟩,r6⟩,r7⟩,r8⟩,r9⟩,r10⟩:=hr;refine ⟨Reader.Fits.new _ _ (by omega),?_,?_,?_⟩
 ·intro t ht
  unfold Pp.new at ht;simp only at ht;split at ht
  ·cases ht;exact Stg.Fits.new _ (by omega)
  ·cases ht
 ·refine ⟨0,Writer.Fits.new _,?_⟩
  unfold Pp.bM Pp.new;simp only;split
  ·exact Nat.le_refl _
  ·rename_i t ht
   split at ht
   ·cases ht;exact Nat.le_refl _
   ·cases ht
 ·unfold Pp.new Writer.new
  simp only;by_cases h3:s.to=3
  ·rw [ifp h3,ifn (by omega),ifn (by omega)];rfl
  ·rw [ifn h3]
   split
   ·rfl
   ·rw [ifp (by omega)];rfl
end Pip
end
section
open Go.RowKit
open Json (Part)
namespace Pip
section
variable {p:Jin} {b:Nat} {h:Own.Heap} {w:World}
end
theorem aIa (d : Nat) (h1 : 1 ≤ d) (h16 : d ≤ 16) (w : World) :
  Calls prog 90 #[.int .i64 (d:Int)] w fun e w'=>∃ b h,e = .returned (.pointer (some ⟨b,0,none⟩)) /\ (Jin.new d).Is b h /\ Own.aA [] h w w':=by
 have hI:=hhh (show (Jin.new d).Is w.heap.size (Own.row w.heap.size 178 ((Jin.new d).l.cells (.pointer none) (.slice none 0 0) ++ [.int .i64 (d:Int),.slice none 0 0,.int .i64 0,.int .i64 0]) :: []) from
  ⟨.slice none 0 0,[],[_],.bare _ rfl,⟨rfl,_,_,[],.inl rfl,.none rfl,rfl⟩,rfl⟩)
 have hT:=hhh ((Own.aA.refl (Own.Has.nil w)).alloc (.cells ((Jin.new d).l.cells (.pointer none) (.slice none 0 0) ++ ([.int .i64 (d:Int),.slice none 0 0,.int .i64 0,.int .i64 0]:List Value)).toArray 178));have l1:¬ (d:Int) < 1:=by omega
 have l2:¬ 16 < (d:Int):=by omega
 have l3:(d:Int) <= 16:=by omega
 clear h1 h16;go_enter func90,ntmps90;go_wp2;go_ret;exact ⟨_,rfl,_,hI.o,hT.o⟩
end Pip
end
section
open Go.RowKit
open Json (Part)
namespace Pip
def bT (l:List Crt):List Value:=l.flatMap fun c=>[.bool c.pairs,.int .i64 c.count,.int .i64 (c.parts:Int)]
theorem gG (l r:List Crt):bT (l ++ r)=bT l ++ bT r:=by simp [bT]
theorem bU (l:List Crt):(bT l).length=l.length * 3:=by
 induction l with
 | nil=>rfl
 | cons c l ih=>rw [bT,List.flatMap_cons,lla];rw [bT] at ih;rw [ih];simp;omega
theorem vM (c:Crt):bT [c]=[.bool c.pairs,.int .i64 c.count,.int .i64 (c.parts:Int)]:=rfl
def u8s (l:List UInt8):List Value:=l.map fun b=>.int .u8 (b.toNat:Int)
theorem fR (l:List UInt8):(u8s l).length=l.length:=List.length_map ..
theorem aBy (l r:List UInt8):u8s (l ++ r)=u8s l ++ u8s r:=List.map_append ..
def Core.cells (c:Core) (ov sv:Value):List Value :=
 [.int .i64 (c.depth:Int),ov,.bool c.done,.int .i64 (c.e:Int),.bool c.word,.bool c.chunks,.int .i64 (c.lack:Int),sv] ++ c.c.enc
def Core.Is (c:Core) (T:TypeId) (b:Nat) (post:List Value) (h:Own.Heap):Prop :=
 ∃ ov sv ho hs,Own.Slk 3 273 c.opened.length (bT c.opened) ov ho /\ Own.Slc 5 (u8s c.s) sv hs /\ h=Own.row b T (c.cells ov sv ++ post) :: (ho ++ hs)
def bN (o:Core × List Part) (T:TypeId) (b:Nat) (post:List Value) (h:Own.Heap) (w:World) (e:Ending) (w':World):Prop :=
 ∃ v hv h',e = .returned v /\ Own.Slc 20 (aF o.2) v hv /\ o.1.Is T b post h' /\ Own.aA h (hv ++ h') w w'
section
variable {c:Core} {T:TypeId} {b:Nat} {post:List Value} {h:Own.Heap} {w:World}
theorem bN.bJ {o:Core × List Part} {h':Own.Heap} {w':World} (h2:o.2=[]) (hI:o.1.Is T b post h') (t:Own.aA h h' w w'):bN o T b post h w (.returned (.slice none 0 0)) w':=by
 refine ⟨_,[],h',rfl,?_,hI,t⟩;rw [h2];exact .bare _ rfl
theorem Core.Is.cV (hi : c.Is T b post h) : ∃ oa oc sa sc ho hs, h = Own.row b T (c.cells (.slice oa c.opened.length oc) (.slice sa c.s.length sc) ++ post) :: (ho ++ hs) ∧
  Own.Slk 3 273 c.opened.length (bT c.opened) (.slice oa c.opened.length oc) ho /\ Own.Slc 5 (u8s c.s) (.slice sa c.s.length sc) hs:=by
 obtain ⟨ov,sv,ho,hs,h1,h2,rfl⟩:=hi;obtain ⟨oa,oc,rfl⟩:=h1.len;obtain ⟨sa,sc,rfl⟩:=h2.len;rw [fR] at h2 |-;exact ⟨oa,oc,sa,sc,ho,hs,rfl,h1,h2⟩
theorem Core.Is.last (hi : c.Is T b post h) (L : List Crt) (t : Crt) (hl : c.opened = L ++ [t]) :
  ∃ ob m spare sa sc hs, h = Own.row b T (c.cells (.slice (some ⟨ob, 0, none⟩) (L.length + 1) (L.length + 1 + m)) (.slice sa c.s.length sc) ++ post) ::
    (Own.row ob 273 (bT L ++ ([.bool t.pairs,.int .i64 t.count,.int .i64 (t.parts:Int)] ++ spare)) :: hs) /\
   spare.length=m * 3 /\ L.length + 1 + m <= maxLen /\ Own.Slc 5 (u8s c.s) (.slice sa c.s.length sc) hs:=by
 obtain ⟨oa,oc,sa,sc,ho,hs,rfl,h1,h2⟩:=hi.cV;rw [hl,lla,List.length_singleton,gG] at h1;obtain ⟨ob,m,spare,e1,rfl,h3,h4⟩:=h1.at_ (by omega);injection e1 with e2 e3 e4
 subst e2 e4;refine ⟨ob,m,spare,sa,sc,hs,?_,h3,h4,h2⟩;rw [hl,lla,List.length_singleton,List.append_assoc];rfl
theorem Core.Is.of (c : Core) (T : TypeId) (b : Nat) (post : List Value) {ob m : Nat} {spare : List Value} {sv : Value} {hs : Own.Heap} (h1 : spare.length = m * 3) (h2 : c.opened.length + m ≤ maxLen) (h3 : Own.Slc 5 (u8s c.s) sv hs) :
  c.Is T b post (Own.row b T (c.cells (.slice (some ⟨ob,0,none⟩) c.opened.length (c.opened.length + m)) sv ++ post) :: (Own.row ob 273 (bT c.opened ++ spare) :: hs)) :=
 ⟨_,_,[_],hs,.row ob m spare (bU _) h1 h2,h3,rfl⟩
theorem Core.Is.cell (hi : c.Is T b post h) (hw : Own.Has w h) : w.cell? ⟨b, 3, none⟩ = some (.int .i64 (c.e : Int)) ∧ w.cell? ⟨b, 2, none⟩ = some (.bool c.done) ∧ w.cell? ⟨b, 4, none⟩ = some (.bool c.word) ∧ w.cell? ⟨b, 5, none⟩ = some (.bool c.chunks) ∧
  w.cell? ⟨b,6,none⟩=some (.int .i64 (c.lack:Int)):=by
 obtain ⟨ov,sv,ho,hs,h1,h2,rfl⟩:=hi;exact ⟨hw.cell b _ _ mcs 3 _ rfl,hw.cell b _ _ mcs 2 _ rfl,hw.cell b _ _ mcs 4 _ rfl,hw.cell b _ _ mcs 5 _ rfl,hw.cell b _ _ mcs 6 _ rfl⟩
theorem Core.Is.free (hi:c.Is T b post h) (hw:Own.Has w h) (j:Nat):w.frozen? ⟨b,j,none⟩=false:=by
 obtain ⟨ov,sv,ho,hs,h1,h2,rfl⟩:=hi;exact hw.free b _ _ mcs j
theorem Core.Is.gO (hi:c.Is T b post h) (hw:Own.Has w h) (j:Nat) (v:Value) (hj:post[j]? = some v):w.cell? ⟨b,12 + j,none⟩=some v:=by
 obtain ⟨ov,sv,ho,hs,h1,h2,rfl⟩:=hi;refine hw.cell b _ _ mcs (12 + j) v ?_;rw [List.getElem?_append_right (by simp [Core.cells,Esc.Chk.enc])];simpa [Core.cells,Esc.Chk.enc] using hj
theorem Core.Is.aH1 (hi : c.Is T b post h) {a0 : Own.Heap} {u : World} (t : Own.aA a0 h u w) (j : Nat) (v : Value) (hj : j < post.length) :
  ∃ h',c.Is T b (post.set j v) h' /\ Own.aA a0 h' u (w.setCell ⟨b,12 + j,none⟩ v):=by
 obtain ⟨ov,sv,ho,hs,h1,h2,rfl⟩:=hi;have t':=t.set (12 + j) v (by simp [Core.cells,Esc.Chk.enc];omega);have e:(c.cells ov sv ++ post).set (12 + j) v=c.cells ov sv ++ post.set j v:=by
  rw [List.set_append_right _ _ (by simp [Core.cells,Esc.Chk.enc])];simp [Core.cells,Esc.Chk.enc]
 rw [e] at t';exact ⟨_,⟨ov,sv,ho,hs,h1,h2,rfl⟩,t'⟩
theorem Core.Is.aC3 (hi : c.Is T b post h) {a0 : Own.Heap} {u : World} (t : Own.aA a0 h u w) (e : Nat) :
  ∃ h',(c.fail e).1.Is T b post h' /\ Own.aA a0 h' u (w.setCell ⟨b,3,none⟩ (.int .i64 (e:Int))):=by
 obtain ⟨ov,sv,ho,hs,h1,h2,rfl⟩:=hi;exact ⟨_,⟨ov,sv,ho,hs,h1,h2,rfl⟩,t.put 3 _ _ rfl⟩
theorem Core.Is.aDo (hi : c.Is T b post h) {a0 : Own.Heap} {u : World} (t : Own.aA a0 h u w) (wd ch : Bool) :
  ∃ h',(Core.mk c.depth c.opened c.done c.e wd ch c.lack c.s c.c).Is T b post h' /\ Own.aA a0 h' u ((w.setCell ⟨b,5,none⟩ (.bool ch)).setCell ⟨b,4,none⟩ (.bool wd)):=by
 obtain ⟨ov,sv,ho,hs,h1,h2,rfl⟩:=hi;exact ⟨_,⟨ov,sv,ho,hs,h1,h2,rfl⟩,(t.put 5 (.bool ch) _ rfl).put 4 (.bool wd) _ rfl⟩
end
end Pip
end
section
open Go.RowKit
open Json (Part)
namespace Pip
section
variable {c:Core} {T:TypeId} {b:Nat} {post:List Value} {h:Own.Heap} {w:World}
theorem cZ (hi : c.Is T b post h) (hw : Own.Has w h) (e : Nat) :
  Calls prog 183 #[.pointer (some ⟨b,0,none⟩),.int .i64 (e:Int)] w (bN (c.fail e) T b post h w):=by
 obtain ⟨c3,-⟩:=hi.cell hw;have f3:=hi.free hw 3;obtain ⟨h',i',t'⟩:=hi.aC3 (Own.aA.refl hw) e;have HI:=hhh i';have HT:=hhh t';clear hi hw i' t';go_enter func183,ntmps183;go_wp2;go_ret;exact .bJ rfl HI.o HT.o
theorem uF (hi : c.Is T b post h) (hw : Own.Has w h) :
  Calls prog 193 #[.pointer (some ⟨b,0,none⟩)] w fun e w'=>e = .returned (.bool c.done) /\ w=w':=by
 obtain ⟨-,c2,-⟩:=hi.cell hw;clear hi hw;go_enter func193,ntmps193;go_wp2;go_ret;exact ⟨rfl,rfl⟩
theorem rT (hi : c.Is T b post h) (hw : Own.Has w h) :
  Calls prog 178 #[.pointer (some ⟨b,0,none⟩)] w fun e w'=>e = .returned (.bool (decide (0 < c.lack))) /\ w=w':=by
 obtain ⟨-,-,-,-,c6⟩:=hi.cell hw;clear hi hw;go_enter func178,ntmps178;go_wp2;go_ret;exact ⟨rfl,rfl⟩
theorem uJ (hi : c.Is T b post h) (hw : Own.Has w h) :
  Calls prog 197 #[.pointer (some ⟨b,0,none⟩)] w fun e w'=>e = .returned (.bool c.full) /\ Own.aA h h w w':=by
 have HT:=hhh (Own.aA.refl hw);obtain ⟨oa,oc,sa,sc,ho,hs,rfl,h1,h2⟩:=hi.cV;have c0:=hw.cell b _ _ mcs 0 _ rfl;have c1:=hw.cell b _ _ mcs 1 _ rfl;clear hi hw h1 h2;go_enter func197,ntmps197;go_wp2;go_quiet (fail);go_wp2;go_ret;exact ⟨rfl,HT.o.drewN _⟩
theorem tG (hi : c.Is T b post h) (hw : Own.Has w h) :
  Calls prog 110 #[.pointer (some ⟨b,0,none⟩)] w fun e w'=>e = .returned (.int .i64 (c.over:Int)) /\ w=w':=by
 obtain ⟨c3,c2,-⟩:=hi.cell hw;have HP:=hhh (show c.over=if c.e=0 /\ c.done=false then 3 else c.e from rfl);generalize c.over=O at HP |-;generalize c.done=D at *
 generalize c.e=E at *
 clear hi hw;rcases Nat.eq_zero_or_pos E with h0 | h0
 ·subst h0
  cases D
  all_goals
   go_enter func110,ntmps110;go_wp2;go_ret;exact ⟨by rw [HP.o];rfl,rfl⟩
 ·have hne:((E:Int) == 0)=false:=by rw [bfn];omega
  have HQ:=hhh (show O=E by rw [HP.o,ifn (by omega)]);clear HP;go_enter func110,ntmps110;go_wp2;go_ret;exact ⟨by rw [HQ.o];rfl,rfl⟩
theorem aH7 (k:Nat):((k:Int)).tmod 2=((k % 2:Nat):Int):=by rw [Int.tmod_eq_emod_of_nonneg (by omega)];omega
theorem aBz (k:Nat):((k:Int)) % 2=((k % 2:Nat):Int):=by omega
theorem aKx (k:Nat):((k:Int)).tdiv 2=((k / 2:Nat):Int):=by rw [Int.tdiv_eq_ediv_of_nonneg (by omega)];omega
theorem aHq (k:Nat):((k:Int)) / 2=((k / 2:Nat):Int):=by omega
theorem rJ {n : Nat} (hi : c.Is T b post h) (hw : Own.Has w h) (hf : c.Fits n) :
  Calls prog 195 #[.pointer (some ⟨b,0,none⟩)] w fun e w'=>e = .returned (.bool c.atKey) /\ Own.aA h h w w':=by
 have HT:=hhh (Own.aA.refl hw);have hd:=hf.deep;have hd2:=hf.depth;rcases List.eq_nil_or_concat c.opened with h0 | ⟨L,t,h0⟩
 ·have HP:=hhh (show c.atKey=false by unfold Core.atKey;rw [h0];rfl)
  obtain ⟨oa,oc,sa,sc,ho,hs,rfl,h1,h2⟩:=hi.cV;have c1:=hw.cell b _ _ mcs 1 _ rfl;rw [h0] at c1;simp only [List.length_nil] at c1;clear hi hw h1 h2 hf;go_enter func195,ntmps195;go_wp2;go_ret;exact ⟨by rw [HP.o];rfl,HT.o⟩
 ·rw [List.concat_eq_append] at h0
  have HP:=hhh (show c.atKey=(t.pairs && decide (t.parts % 2=0)) by unfold Core.atKey;rw [h0];simp);have hp:=(hf.aW t (by rw [h0];simp)).parts;have hN1:L.length < 16:=by rw [h0] at hd;simp at hd;omega
  obtain ⟨ob,m,spare,sa,sc,hs,rfl,h1,h2,h3⟩:=hi.last L t h0;have c1:=hw.cell b _ _ mcs 1 _ rfl;have d0:=hw.cell ob _ _ (mcm _ mcs) (L.length * 3) (.bool t.pairs) (by rw [<- bU,List.getElem?_append_right (by omega)];simp);have d2:=hw.cell ob _ _ (mcm _ mcs) (L.length * 3 + 2) (.int .i64 (t.parts:Int)) (by rw [<- bU,List.getElem?_append_right (by omega)];simp);generalize L.length=K at *
  obtain ⟨y,ct,k⟩:=t;simp only at *
  have e1:=aH7 k;have e2:=aBz k;have hlt:=Nat.mod_lt k (show 0 < 2 by omega);generalize k % 2=r at e1 e2 HP hlt;clear hi hw h1 h2 h3 hf h0 hd
  cases y
  ·go_enter func195,ntmps195
   go_wp2;go_ret;exact ⟨by rw [HP.o];rfl,HT.o⟩
  ·obtain rfl | rfl:r=0 \/ r=1:=by omega
   all_goals
    go_enter func195,ntmps195;go_wp2;go_ret;exact ⟨by rw [HP.o];rfl,HT.o⟩
end
theorem aE8 (t : Crt) (hk : t.parts ≤ 2000000) (w : World) :
  Calls prog 198 #[.agg #[.bool t.pairs,.int .i64 t.count,.int .i64 (t.parts:Int)]] w fun e w'=>e = .returned (.bool t.fits) /\ Below w.heap.size w w':=by
 have B0:=hhh (fun o=>(Below.refl w.heap.size w).alloc (Nat.le_refl _) o);obtain ⟨y,ct,k⟩:=t;simp only at hk;have HP0:(Crt.mk y ct k).fits=if y then decide (k % 2=0) && ((k / 2:Nat):Int) == ct else (k:Int) == ct:=rfl
 generalize (Crt.mk y ct k).fits=F at HP0 |-;have e1:=aH7 k;have e2:=aBz k;have e3:=aKx k;have e4:=aHq k;have hlt:=Nat.mod_lt k (show 0 < 2 by omega);have hwq:wrap64 ((k / 2:Nat):Int)=((k / 2:Nat):Int):=by unfold wrap64;omega
 generalize k % 2=r at e1 e2 HP0 hlt;generalize k / 2=q at e3 e4 HP0 hwq;clear hk;simp only
 cases y
 ·have HP:=hhh (show F=((k:Int) == ct) by rw [HP0];rfl)
  clear HP0;go_enter func198,ntmps198;go_wp2;go_ret;exact ⟨by rw [HP.o];rfl,B0.o _⟩
 ·obtain rfl | rfl:r=0 \/ r=1:=by omega
  ·have HP:=hhh (show F=((q:Int) == ct) by rw [HP0];simp)
   clear HP0;go_enter func198,ntmps198;go_wp2;go_ret;exact ⟨by rw [HP.o];rfl,B0.o _⟩
  ·have HP:=hhh (show F=false by rw [HP0];simp)
   clear HP0;go_enter func198,ntmps198;go_wp2;go_ret;exact ⟨by rw [HP.o];rfl,B0.o _⟩
end Pip
end
section
open Go.RowKit
open Json (Part)
namespace Own
theorem aY (w:World) (a:Addr) (v:Value):(w.setCell a v).heap.size=w.heap.size:=by simp [World.setCell]
theorem aA.aP {a b:Heap} {u v:World} (h:aA a b u v) (k:Nat) (hk:v.heap.size=k) (T:TypeId) (l:List Value):aA a (row k T l :: b) u (v.alloc (.cells l.toArray T)):=h.bC k hk _
theorem bQ {P : Program} {w : World} {ops : Array Oper} {rest : List Oper} {o : Oper} {a : Act} {Q : Exit → Act → World → Prop} (k : Nat) (hk : w.heap.size = k) (hgd : o.guard = none) (s x : Operand) (t : TypeId)
  (ho:o.op = .call { callee:=.builtin .append,args:=#[s,x],argTypes:=#[t,t] })
  (e:TypeId) (i:TypeInfo) (z:Value) (bytes:Nat) (ht:P.underlying t=some (.slice e)) (hi:P.info? e=some i) (hz:i.zero=some z)
  (hsize:i.size=1) (hby:i.bytes=bytes) (hzs:z.cells.size=1)
  (v:Value) (xs:List Value) (n:Nat) (hn:xs.length=n) (h R:Heap) (hs:a.eval s=v) (hv:Slc e xs v h) (hw:Has w (h ++ R)) (y:Value) (hx:a.eval x = .slice (some ⟨k,0,none⟩) 1 1) (hy:y.oneCell'=true)
  (h63:n + 1 <= maxLen) (hbytes:(n + 1) * bytes <= 140737488355328)
  (hK:∀ ad' c' h' w',Slc e (xs ++ [y]) (.slice ad' (n + 1) c') h' -> aA (h ++ R) (h' ++ R) w w' -> wpList P ops Q rest (a.put o.dst (.slice ad' (n + 1) c')) w') :
  wpList P ops Q (o :: rest) a (w.alloc (.cells #[y] e)):=by
 subst hk;exact aX hgd s x t ho e i z bytes ht hi hz hsize hby hzs v xs n hn h R hs hv hw y hx hy h63 hbytes hK
end Own
namespace Pip
def lenSl:Value -> Nat
 | .slice _ n _=>n
 | _=>0
theorem up_nil:up []=([],0):=rfl
theorem aKp (t:Crt) (r:List Crt) (h:(Crt.mk t.pairs t.count (t.parts + 1)).fits=true):up (t :: r)=((up r).1,(up r).2 + 1):=by rw [up,ifp h]
theorem aJn (t:Crt) (r:List Crt) (h:(Crt.mk t.pairs t.count (t.parts + 1)).fits=false):up (t :: r)=(⟨t.pairs,t.count,t.parts + 1⟩ :: r,0):=by rw [up,ifn (by rw [h];exact Bool.false_ne_true)]
theorem _root_.Go.Proofs.YtcjflgmcjfcodaaGreat.Own.aA.flip {a l r:Own.Heap} {u v:World} (h:Own.aA a (l ++ r) u v):Own.aA a (r ++ l) u v:=h.perm (.refl _) List.perm_append_comm
def Core.eC (c:Core) (L:List Crt) (d:Bool):Core:=⟨c.depth,L,d,c.e,c.word,c.chunks,c.lack,c.s,c.c⟩
section
variable {c:Core} {T:TypeId} {b:Nat} {post:List Value} {h:Own.Heap} {w:World}
theorem dX {n : Nat} (hi : c.Is T b post h) (hw : Own.Has w h) (hf : c.Fits n) (hn : n ≤ 1000000) (v : Part) :
  Calls prog 190 #[.pointer (some ⟨b,0,none⟩),v.val] w (bN (c.value v) T b post h w):=by
 obtain ⟨i0,hi0,e0⟩:=Option.map_eq_some_iff.1 infoAny;simp only [Prod.mk.injEq] at e0;obtain ⟨hz,hsz,hby⟩:=e0;have Hi:=hhh (ai hi0 (ai hz (ai hsz hby)));have HW:=hhh hw;have HI:=hhh hi;have hd16:c.opened.length <= 16:=Nat.le_trans hf.deep hf.depth;have HD:=hhh hd16;have HPa:=hhh (fun t (ht:t ∈ c.opened)=>(hf.aW t ht).parts);have HN:=hhh hn;have HB1:=hhh (fun o=>(Own.aA.refl hw).alloc o);clear hi hw hf hd16 hi0 hz hsz hby hn;have hv1:∀ V,V=v.val -> Own.Slc 20 (aF [v]) (.slice (some ⟨w.heap.size,0,none⟩) 1 1) [Own.row w.heap.size 20 [V]]:=fun V hV=>by
  subst hV;exact Own.Slc.row (e:=20) (xs:=aF [v]) w.heap.size [] [] (by show (1:Nat) <= maxLen;decide)
 have HS1:=hhh hv1;clear hv1;have HL0:=hhh (show c.eC c.opened c.done=c from rfl);rcases eR v with hY | ⟨T0,y0,hY⟩
 all_goals
  have HY:=hhh hY;rw [hY];clear hY;go_enter func190,ntmps190;go_wp2
  go_loopw [5] (fun o wr => ∃ (j : Nat) (L : List Crt) (ho hj : Own.Heap), Own.Slc 20 (aF (v :: List.replicate j Part.close)) o ho ∧ (c.eC L c.done).Is T b post hj ∧ Own.aA h (ho ++ hj) w wr ∧
    L.length <= 16 /\ j + L.length=c.opened.length /\ Hid ((∀ t ∈ L,t ∈ c.opened) /\ (up c.opened.reverse).1=(up L.reverse).1 /\ (up c.opened.reverse).2=(up L.reverse).2 + j)) (fun o _=>100 - lenSl o)
  case atStart=>exact ⟨0,c.opened,[_],h,HS1.o _ HY.o.symm,by rw [HL0.o];exact HI.o,HB1.o _,HD.o,by omega,hhh ⟨fun _ h=>h,rfl,rfl⟩⟩
  case round =>
   obtain ⟨j,L,ho,hj,hso,hij,ht,hL16,hjl,hup⟩:=hrel;have HSo:=hhh hso;have HIj:=hhh hij;have HT:=hhh ht;have hlen:(aF (v :: List.replicate j Part.close)).length=j + 1:=by simp [aF]
   obtain ⟨oa,oc,ro⟩:=hso.len;rw [hlen] at ro;subst ro;have HLen:=hhh hlen;have hj16:j <= 16:=by have:=HD.o;omega
   clear hso hij ht hlen;rcases List.eq_nil_or_concat L with rfl | ⟨K,t,rfl⟩
   ·have HP:=hhh (show c.value v=(c.eC [] true,v :: List.replicate j Part.close) by
     unfold Core.value;rw [hup.out.2.1,hup.out.2.2,List.reverse_nil,up_nil]
     simp [Core.eC])
    obtain ⟨xa,xc,sa,sc,hoo,hss,rfl,h1,h2⟩:=HIj.o.cV;have cc1:=HT.o.has.right.cell b _ _ mcs 1 _ rfl;have ff2:=HT.o.has.right.free b _ _ mcs 2;have cc2:=HT.o.has.right.cell b _ _ mcs 2 _ rfl;have hOp:(c.eC [] c.done).opened.length=0:=rfl;rw [hOp] at cc1;have T2:=hhh (show Own.aA h ((Own.row b T ((c.eC [] true).cells (.slice xa 0 xc) (.slice sa (c.eC [] c.done).s.length sc) ++ post) :: (hoo ++ hss)) ++ ho) w (wr.setCell ⟨b,2,none⟩ (.bool true)) from HT.o.flip.put 2 (.bool true) _ rfl);have HI2:=hhh (show (c.eC [] true).Is T b post _ from ⟨_,_,_,_,h1,h2,rfl⟩);clear h1 h2 HIj HT hup;go_wp2;go_ret;rw [HP.o];exact ⟨_,ho,_,rfl,HSo.o,HI2.o,T2.o.flip⟩
   ·rw [List.concat_eq_append] at *
    have hOp:(c.eC (K ++ [t]) c.done).opened=K ++ [t]:=rfl;obtain ⟨ob,m,spare,sa,sc,hs,rfl,h1,h2,h3⟩:=HIj.o.last K t hOp;have hKl:K.length < 16:=by simp at hL16;omega
    have hpt:=HPa.o t (hup.out.1 t (by simp));have hpn:t.parts <= 1000000:=Nat.le_trans hpt HN.o;have htj:=HT.o.has.right;have cc1:=htj.cell b _ _ mcs 1 _ rfl;have d2:=htj.cell ob _ _ (mcm _ mcs) (K.length * 3 + 2) (.int .i64 (t.parts:Int)) (by rw [<- bU,List.getElem?_append_right (by omega)];simp);have d0:=htj.cell ob _ _ (mcm _ mcs) (K.length * 3) (.bool t.pairs) (by rw [<- bU,List.getElem?_append_right (by omega)];simp);have d1:=htj.cell ob _ _ (mcm _ mcs) (K.length * 3 + 1) (.int .i64 t.count) (by rw [<- bU,List.getElem?_append_right (by omega)];simp);have g2:=htj.free ob _ _ (mcm _ mcs) (K.length * 3 + 2);have hwr:IntKind.i64.wrap ((t.parts:Int) + 1)=(t.parts:Int) + 1:=by rw [IntKind.wrap_i64];omega
    have htop:((K.length + 1:Nat):Int) - 1=(K.length:Int):=by omega
    have hne:ob ≠ b:=by
     intro e;have:=htj.once;rw [e] at this;simp [Own.blocks] at this
    have T2 := hhh (show Own.aA h (ho ++ (Own.row b T ((c.eC (K ++ [t]) c.done).cells (.slice (some ⟨ob, 0, none⟩) (K.length + 1) (K.length + 1 + m)) (.slice sa (c.eC (K ++ [t]) c.done).s.length sc) ++ post) ::
      Own.row ob 273 (bT K ++ ([Value.bool t.pairs,.int .i64 t.count,.int .i64 ((t.parts:Int) + 1)] ++ spare)) :: hs)) w (wr.setCell ⟨ob,K.length * 3 + 2,none⟩ (.int .i64 ((t.parts:Int) + 1))) by
     have t0:=Own.aA.setAt [_] (HT.o.flip (l:=ho) (r:=_ :: Own.row ob 273 _ :: hs)) (K.length * 3 + 2) (.int .i64 ((t.parts:Int) + 1)) (by rw [<- bU];simp);have e:(bT K ++ ([Value.bool t.pairs,.int .i64 t.count,.int .i64 (t.parts:Int)] ++ spare)).set (K.length * 3 + 2) (.int .i64 ((t.parts:Int) + 1))=bT K ++ ([Value.bool t.pairs,.int .i64 t.count,.int .i64 ((t.parts:Int) + 1)] ++ spare):=by
      rw [<- bU,List.set_append_right _ _ (by omega)];simp
     rw [e] at t0
     exact Own.aA.flip (l:=_ :: Own.row ob _ _ :: hs) (r:=ho) t0)
    have HFi:=hhh (show ∀ u,Calls prog 198 #[.agg #[.bool t.pairs,.int .i64 t.count,.int .i64 ((t.parts:Int) + 1)]] u fun e w'=>e = .returned (.bool (Crt.mk t.pairs t.count (t.parts + 1)).fits) /\ Below u.heap.size u w' from fun u=>aE8 ⟨t.pairs,t.count,t.parts + 1⟩ (show t.parts + 1 <= 2000000 by omega) u);have HIs:=hhh (Core.Is.of (c.eC (K ++ [⟨t.pairs,t.count,t.parts + 1⟩]) c.done) T b post (ob:=ob) h1 (by show (K ++ [_]).length + m <= maxLen;simp;omega) h3);have HIk:=hhh (Core.Is.of (c.eC K c.done) T b post (ob:=ob) (m:=m + 1) (spare:=[.bool t.pairs,.int .i64 t.count,.int .i64 ((t.parts:Int) + 1)] ++ spare) (by simp;omega) (by show K.length + (m + 1) <= maxLen;omega) h3);have HUp:=hhh (ai (aKp t K.reverse) (aJn t K.reverse));have HMem:=hhh (fun x (hx:x ∈ K)=>hup.out.1 x (List.mem_append_left _ hx));have HUj:=hhh hup.out.2;rw [List.reverse_append,List.reverse_singleton,List.singleton_append] at HUj;obtain ⟨N,hN⟩:∃ N,N=K.length:=⟨_,rfl⟩;rw [<- hN] at cc1 d0 d1 d2 g2 htop T2;have HNk:=hhh hN;have hNl:N < 16:=by omega
    have hjN:j + (N + 1)=c.opened.length:=by rw [<- hjl];simp [hN]
    clear h1 h2 h3 HIj hup hpt hpn htj hN hjl hL16 hOp hKl;generalize hft:(Crt.mk t.pairs t.count (t.parts + 1)).fits=ft at HFi HUp;have Hft:=hhh hft;clear hft;go_wp2_with (fail);refine (HFi.o _).mono ?_;rintro e3 w3 ⟨rfl,b3⟩;have T3:=hhh (T2.o.trans (Own.aA.aJ T2.o.has b3));clear cc1 d0 d1 d2 g2
    cases ft
    ·have HP:=hhh (show c.value v=(c.eC (K ++ [⟨t.pairs,t.count,t.parts + 1⟩]) c.done,v :: List.replicate j Part.close) by
      unfold Core.value;rw [HUj.o.1,HUj.o.2,HUp.o.2 rfl]
      simp [Core.eC])
     go_wp2;go_ret;rw [HP.o];refine ⟨_,ho,_,rfl,HSo.o,HIs.o,?_⟩;have e1:(c.eC (K ++ [⟨t.pairs,t.count,t.parts + 1⟩]) c.done).opened.length=N + 1:=by rw [HNk.o];simp [Core.eC]
     rw [e1];have e2:bT (c.eC (K ++ [⟨t.pairs,t.count,t.parts + 1⟩]) c.done).opened ++ spare=bT K ++ ([Value.bool t.pairs,.int .i64 t.count,.int .i64 ((t.parts + 1:Nat):Int)] ++ spare):=by
      show bT (K ++ [_]) ++ spare=_;rw [gG,vM,List.append_assoc]
     rw [e2];exact T3.o
    ·have z1:=T3.o.has.right.cell b _ _ mcs 1 _ rfl
     have zf:=T3.o.has.right.free b _ _ mcs 1
     have T4 := hhh (show Own.aA h (ho ++ (Own.row b T ((c.eC K c.done).cells (.slice (some ⟨ob, 0, none⟩) N (N + 1 + m)) (.slice sa (c.eC (K ++ [t]) c.done).s.length sc) ++ post) ::
       Own.row ob 273 (bT K ++ ([Value.bool t.pairs,.int .i64 t.count,.int .i64 ((t.parts:Int) + 1)] ++ spare)) :: hs)) w (w3.setCell ⟨b,1,none⟩ (.slice (some ⟨ob,0,none⟩) N (N + 1 + m))) from
      Own.aA.flip (l:=Own.row b T ((c.eC K c.done).cells _ _ ++ post) :: Own.row ob _ _ :: hs) (r:=ho) ((Own.aA.flip (l:=ho) (r:=_ :: Own.row ob _ _ :: hs) T3.o).put 1 (.slice (some ⟨ob,0,none⟩) N (N + 1 + m)) _ rfl))
     have e1:(c.eC K c.done).opened.length=N:=HNk.o.symm;rw [e1,show N + (m + 1)=N + 1 + m by omega] at HIk
     have hu2:=hhh (show (up c.opened.reverse).1=(up K.reverse).1 /\ (up c.opened.reverse).2=(up K.reverse).2 + (j + 1) by
      rw [HUj.o.1,HUj.o.2,HUp.o.1 rfl]
      exact ⟨rfl,by simp only;omega⟩)
     clear e1 HIs HFi;go_wp2_with (at_builtin;go_loud (refine Own.bQ w3.heap.size (Own.aY _ _ _) rfl _ _ 129 rfl 20 i0 .nilIface 16 underlying129 Hi.o.1 Hi.o.2.1 Hi.o.2.2.1 Hi.o.2.2.2 rfl (.slice oa (j + 1) oc) (aF (v :: List.replicate j Part.close)) (j + 1) HLen.o ho _ rfl HSo.o T4.out.has _ rfl rfl ?c1 ?c2 ?_))
     case c1=>simp only [maxLen];omega
     case c2=>omega
     intro ad' c' h' w' hs' ht';have S4:=hhh hs';have T5:=hhh (T4.out.trans ht');clear hs' ht';go_wp2;go_roundw
     case rel =>
      refine ⟨j + 1,K,h',_,?_,HIk.o,T5.o,by rw [<- HNk.o];omega,by rw [<- HNk.o];omega,hhh ⟨HMem.o,hu2.o⟩⟩;have:=S4.o;rw [show aF (v :: List.replicate (j + 1) Part.close)=aF (v :: List.replicate j Part.close) ++ [Part.close.val] by simp [aF,List.replicate_succ']];exact this
     case measure=>simp [lenSl];omega
end
end Pip
end
section
open Go.RowKit
open Json (Part)
namespace Own
theorem lF {P : Program} {w : World} {ops : Array Oper} {rest : List Oper} {o : Oper} {a : Act} {Q : Exit → Act → World → Prop} (hgd : o.guard = none) (s x : Operand) (t : TypeId)
  (ho:o.op = .call { callee:=.builtin .append,args:=#[s,x],argTypes:=#[t,t] })
  (e:TypeId) (i:TypeInfo) (z:Value) (bytes:Nat) (ht:P.underlying t=some (.slice e)) (hi:P.info? e=some i) (hz:i.zero=some z)
  (hsize:i.size=1) (hby:i.bytes=bytes) (hzs:z.cells.size=1)
  (v:Value) (xs:List Value) (h:Heap) (hs:a.eval s=v) (hv:Slc e xs v h) (y:Value) (ys:List Value) (g:Heap) (hx:a.eval x=y) (hy:Slc e ys y g) (R:Heap) (hw:Has w (h ++ (g ++ R)))
  (h1:∀ u ∈ ys,u.oneCell'=true) (hm0:0 < ys.length) (h63:xs.length + ys.length <= maxLen) (hbytes:(xs.length + ys.length) * bytes <= 140737488355328)
  (hK:∀ ad' c' h' w',Slc e (xs ++ ys) (.slice ad' (xs.length + ys.length) c') h' -> aA (h ++ (g ++ R)) (h' ++ (g ++ R)) w w' -> wpList P ops Q rest (a.put o.dst (.slice ad' (xs.length + ys.length) c')) w') :
  wpList P ops Q (o :: rest) a w:=by
 cases hy with
 | bare a0 h0=>subst h0;simp at hm0
 | row b pre spare hm =>
  refine iG hgd s x t ho e i z bytes ht hi hz hsize hby hzs v xs h hs hv hw.left ⟨b,pre.length,none⟩ _ ys.length ys hx rfl (fun j u hj=>?_) h1 hm0 h63 hbytes ?_
  ·rw [Addr.add_lit]
   refine (hw.right.left).cell b e (pre ++ (ys ++ spare)) msr (pre.length + j) u ?_;rw [List.getElem?_append_right (by omega),Nat.add_sub_cancel_left,List.getElem?_append_left (List.getElem?_eq_some_iff.1 hj).1];exact hj
  ·intro ad' c' h' w' hs' ht'
   exact hK ad' c' h' w' hs' (ht'.frame hw)
end Own
namespace Pip
theorem infoCrt:(prog.info? 273).map (fun i=>(i.zero,i.size,i.bytes))=some (some (.agg #[.bool false,.int .i64 0,.int .i64 0]),3,24):=by kernel_rfl
section
variable {c:Core} {T:TypeId} {b:Nat} {post:List Value} {h:Own.Heap} {w:World}
theorem xE {n : Nat} (hi : c.Is T b post h) (hw : Own.Has w h) (hf : c.Fits n) (pairs : Bool) (count : Int) (hc : count ≠ 0) :
  Calls prog 192 #[.pointer (some ⟨b,0,none⟩),.bool pairs,.int .i64 count] w (bN (c.begin pairs count) T b post h w):=by
 have HP:=hhh (show c.begin pairs count=(c.eC (c.opened ++ [⟨pairs,count,0⟩]) c.done,[.aG pairs count]) by unfold Core.begin;rw [ifn hc];rfl);obtain ⟨i0,hi0,e0⟩:=Option.map_eq_some_iff.1 infoCrt;simp only [Prod.mk.injEq] at e0;obtain ⟨hz,hsz,hby⟩:=e0;have Hi:=hhh (ai hi0 (ai hz (ai hsz hby)));have hcb:(count == 0)=false:=by simpa using hc
 have hN16:c.opened.length <= 16:=Nat.le_trans hf.deep hf.depth;obtain ⟨oa,oc,sa,sc,ho,hs,rfl,h1,h2⟩:=hi.cV;have HS:=hhh h1;have HS2:=hhh h2;obtain ⟨N,hN⟩:∃ N,N=c.opened.length:=⟨_,rfl⟩;have t0:=(Own.aA.aP (Own.aA.refl hw) w.heap.size rfl 218 [.bool pairs,.int .i64 count]).aP (w.heap.size + 1) (Json.size_alloc w _) 273 [.bool pairs,.int .i64 count,.int .i64 0];rw [<- hN] at t0 HS |-;have HN:=hhh hN
 have t1 : Own.aA (Own.row b T (c.cells (.slice oa N oc) (.slice sa c.s.length sc) ++ post) :: (ho ++ hs)) (Own.row (w.heap.size + 1) 273 [.bool pairs, .int .i64 count, .int .i64 0] ::
   (ho ++ (Own.row b T (c.cells (.slice oa N oc) (.slice sa c.s.length sc) ++ post) :: Own.row w.heap.size 218 [.bool pairs,.int .i64 count] :: hs))) w
   ((w.alloc (.cells #[.bool pairs,.int .i64 count] 218)).alloc (.cells #[.bool pairs,.int .i64 count,.int .i64 0] 273)) :=
  t0.perm (.refl _) (Own.aE _ _ fun x=>by simp only [List.count_append,List.count_cons];omega)
 have HT:=hhh t1;have ta:=Own.aA.aD (Own.aA.refl hw);have c1:=fun o=>(ta o).has.cell b _ _ mcs 1 _ rfl
 have c1':=hw.cell b _ _ mcs 1 _ rfl;rw [<- hN] at c1';simp only [<- hN] at c1;have hlt:=hw.cL;have hne:¬ b=w.heap.size:=by omega
 have hne':¬ w.heap.size=b:=by omega
 rw [<- hN] at hN16;clear hi hw hf h1 h2 t0 t1 ta hc hN hi0 hz hsz hby hlt;go_enter func192,ntmps192;go_wp2_with (at_builtin;go_loud (refine Own.lI rfl _ _ 188 rfl 273 i0 (.agg #[.bool false,.int .i64 0,.int .i64 0]) 3 24 underlying188 Hi.o.1 Hi.o.2.1 Hi.o.2.2.1 Hi.o.2.2.2 rfl (.slice oa N oc) N (bT c.opened) ho _ rfl HS.o (w.heap.size + 1) _ HT.o.has rfl rfl ?hy ?c1 ?c2 ?_))
 case hy=>(intro u hu;simp only [List.mem_cons,List.not_mem_nil,or_false] at hu;rcases hu with rfl | rfl | rfl <;> rfl)
 case c1=>(simp only [maxLen];omega)
 case c2=>omega
 intro ad' c' h' w1 hs' ht';have hs2:=hhh hs';have T2:=HT.o.trans ht';have f1:=T2.has.free b _ _ (mcm _ (List.mem_append_right _ mcs)) 1;have d1:=T2.has.cell b _ _ (mcm _ (List.mem_append_right _ mcs)) 1 _ rfl
 have T3 : Own.aA (Own.row b T (c.cells (.slice oa N oc) (.slice sa c.s.length sc) ++ post) :: (ho ++ hs))
   (Own.row b T (c.cells (.slice ad' (N + 1) c') (.slice sa c.s.length sc) ++ post) :: (Own.row w.heap.size 218 [.bool pairs,.int .i64 count] :: (h' ++ hs ++ [Own.row (w.heap.size + 1) 273 [.bool pairs,.int .i64 count,.int .i64 0]]))) w
   (w1.setCell ⟨b,1,none⟩ (.slice ad' (N + 1) c')) :=
  (T2.perm (.refl _) (Own.aE _ (Own.row b T (c.cells (.slice oa N oc) (.slice sa c.s.length sc) ++ post) :: (Own.row w.heap.size 218 [.bool pairs,.int .i64 count] :: (h' ++ hs ++ [Own.row (w.heap.size + 1) 273 [.bool pairs,.int .i64 count,.int .i64 0]])))
   fun x=>by simp only [List.count_append,List.count_cons,List.count_nil];omega)).put 1 _ _ rfl
 have b0:=T3.has.cell w.heap.size _ _ (mcm _ mcs) 0 _ rfl;have b1:=T3.has.cell w.heap.size _ _ (mcm _ mcs) 1 _ rfl;have HT3:=hhh T3;clear hs' ht' T2 T3 HT;go_wp2;go_ret;rw [HP.o];refine ⟨_,[Own.row _ 20 [(Part.aG pairs count).val]],_,rfl,Own.Slc.row (e:=20) (xs:=aF [.aG pairs count]) _ [] [] (by show (1:Nat) <= maxLen;decide),⟨.slice ad' (N + 1) c',.slice sa c.s.length sc,h',hs,?_,HS2.o,rfl⟩,?_⟩
 ·have:=hs2.o
  show Own.Slk 3 _ (c.opened ++ [_]).length (bT (c.opened ++ [_])) _ _;rw [lla,List.length_singleton,gG,<- HN.o];exact this
 ·have:=HT3.o.aP w1.heap.size (Own.aY _ _ _) 20 [(Part.aG pairs count).val]
  exact (this.perm (.refl _) (Own.aE _ (([Own.row w1.heap.size 20 [(Part.aG pairs count).val]] ++ (Own.row b T (c.cells (.slice ad' (N + 1) c') (.slice sa c.s.length sc) ++ post) :: (h' ++ hs))) ++ [Own.row w.heap.size 218 [.bool pairs,.int .i64 count],Own.row (w.heap.size + 1) 273 [.bool pairs,.int .i64 count,.int .i64 0]])
   fun x=>by simp only [List.count_append,List.count_cons,List.count_nil];omega)).drop
theorem wX {n : Nat} (hi : c.Is T b post h) (hw : Own.Has w h) (hf : c.Fits n) (hn : n ≤ 1000000) (pairs : Bool) :
  Calls prog 192 #[.pointer (some ⟨b,0,none⟩),.bool pairs,.int .i64 0] w (bN (c.begin pairs 0) T b post h w):=by
 have HP:=hhh (show c.begin pairs 0=((c.value .close).1,[.aG pairs 0] ++ (c.value .close).2) by unfold Core.begin;rw [ifp rfl];rfl);obtain ⟨i0,hi0,e0⟩:=Option.map_eq_some_iff.1 infoAny;simp only [Prod.mk.injEq] at e0;obtain ⟨hz,hsz,hby⟩:=e0;have Hi:=hhh (ai hi0 (ai hz (ai hsz hby)));have HT:=hhh (Own.aA.aP (Own.aA.refl hw) w.heap.size rfl 218 [.bool pairs,.int .i64 0]);have HV:=hhh (fun u (k:Own.Has u h)=>dX hi k hf hn .close);have hlen:=up_count c.opened.reverse;rw [List.length_reverse] at hlen;have hd:=hf.deep;have hd2:=hf.depth;have hpl:0 < (aF (c.value .close).2).length /\ (aF (c.value .close).2).length <= 100:=by
  simp [aF,Core.value];omega
 generalize c.value .close=o at HP HV hpl;obtain ⟨o1,o2⟩:=o;simp only at HP HV hpl;obtain ⟨M,hM⟩:∃ M,M=(aF o2).length:=⟨_,rfl⟩;rw [<- hM] at hpl;have HM:=hhh hM
 have h1c:=hhh (show ∀ u ∈ aF o2,u.oneCell'=true by
  intro u hu;obtain ⟨p,_,rfl⟩:=List.mem_map.1 hu
  exact vR p)
 clear hi hw hf hi0 hz hsz hby hlen hd hd2 hM;go_enter func192,ntmps192;go_wp2_with (fail);refine (HV.o _ (Own.Has.right (a:=[_]) HT.o.has)).mono ?_;rintro e w1 ⟨v,hv,h',rfl,hs,i1,t1⟩;have T1:=hhh (HT.o.trans (t1.cons HT.o.has));have HS:=hhh hs;have HI:=hhh i1;obtain ⟨va,vc,rfl⟩:=hs.len;rw [<- HM.o] at HS |-;have b0:=T1.o.has.cell w.heap.size _ _ mcs 0 _ rfl;have b1:=T1.o.has.cell w.heap.size _ _ mcs 1 _ rfl;have T2:=hhh (T1.o.aP w1.heap.size rfl 20 [(Part.aG pairs 0).val])
 have HS1:=hhh (show Own.Slc 20 (aF [Part.aG pairs 0]) (.slice (some ⟨w1.heap.size,0,none⟩) 1 1) [Own.row w1.heap.size 20 [(Part.aG pairs 0).val]] from
  Own.Slc.row (e:=20) (xs:=aF [Part.aG pairs 0]) w1.heap.size [] [] (by show (1:Nat) <= maxLen;decide))
 have T3:=hhh (T2.o.perm (.refl _) (Own.aE _ ([Own.row w1.heap.size 20 [(Part.aG pairs 0).val]] ++ (hv ++ (h' ++ [Own.row w.heap.size 218 [.bool pairs,.int .i64 0]]))) fun x=>by simp only [List.count_append,List.count_cons,List.count_nil];omega));clear hs i1 t1 T1 T2 HV HT;go_wp2_with (at_builtin;go_loud (refine Own.lF rfl _ _ 129 rfl 20 i0 .nilIface 16 underlying129 Hi.o.1 Hi.o.2.1 Hi.o.2.2.1 Hi.o.2.2.2 rfl (.slice (some ⟨w1.heap.size,0,none⟩) 1 1) (aF [Part.aG pairs 0]) _ rfl HS1.o (.slice va M vc) (aF o2) hv rfl HS.o _ T3.o.has h1c.o ?c0 ?c1 ?c2 ?_))
 case c0=>rw [<- HM.o];exact hpl.1
 case c1=>rw [<- HM.o];show 1 + M <= maxLen;simp only [maxLen];omega
 case c2=>rw [<- HM.o];show (1 + M) * 16 <= _;omega
 intro ad' c' h2 w2 hs' ht';rw [<- HM.o,show (aF [Part.aG pairs 0]).length=1 from rfl] at hs' |-;have HS3:=hhh hs';have T4:=hhh (T3.o.trans ht');clear hs' ht';go_wp2;go_ret;rw [HP.o];refine ⟨_,h2,h',rfl,?_,HI.o,?_⟩
 ·have:=HS3.o
  simpa [aF] using this
 ·exact (T4.o.perm (.refl _) (Own.aE _ ((h2 ++ h') ++ (hv ++ [Own.row w.heap.size 218 [.bool pairs,.int .i64 0]])) fun x=>by simp only [List.count_append];omega)).drop
theorem qE {n : Nat} (hi : c.Is T b post h) (hw : Own.Has w h) (hf : c.Fits n) (hn : n ≤ 1000000) (pairs : Bool) (count : Int) :
  Calls prog 192 #[.pointer (some ⟨b,0,none⟩),.bool pairs,.int .i64 count] w (bN (c.begin pairs count) T b post h w):=by
 by_cases hc:count=0
 ·subst hc;exact wX hi hw hf hn pairs
 ·exact xE hi hw hf pairs count hc
theorem Core.Is.shut (hi : c.Is T b post h) (L : List Crt) (t : Crt) (hl : c.opened = L ++ [t]) {a0 : Own.Heap} {u : World} (tu : Own.aA a0 h u w) :
  ∃ ob m spare h',(w.cell? ⟨b,1,none⟩=some (.slice (some ⟨ob,0,none⟩) (L.length + 1) (L.length + 1 + m))) /\ w.frozen? ⟨b,1,none⟩=false /\ w.cell? ⟨ob,L.length * 3,none⟩=some (.bool t.pairs) /\ w.cell? ⟨ob,L.length * 3 + 1,none⟩=some (.int .i64 t.count) /\
   w.cell? ⟨ob,L.length * 3 + 2,none⟩=some (.int .i64 (t.parts:Int)) /\ spare=0 /\ L.length + 1 + m <= maxLen /\
   (Core.mk c.depth c.opened.dropLast c.done c.e c.word c.chunks c.lack c.s c.c).Is T b post h' /\ Own.aA a0 h' u (w.setCell ⟨b,1,none⟩ (.slice (some ⟨ob,0,none⟩) L.length (L.length + 1 + m))):=by
 obtain ⟨ob,m,spare,sa,sc,hs,rfl,h1,h2,h3⟩:=hi.last L t hl;have hw:=tu.has
 have d:=fun (j:Nat) (v:Value) (hv:[Value.bool t.pairs,.int .i64 t.count,.int .i64 (t.parts:Int)][j]? = some v)=>hw.cell ob _ _ (mcm _ mcs) (L.length * 3 + j) v (by
  have hj3:j < 3:=(List.getElem?_eq_some_iff.1 hv).1
  rw [<- bU,List.getElem?_append_right (by omega),Nat.add_sub_cancel_left,List.getElem?_append_left (by simpa using hj3)];exact hv)
 refine ⟨ob,m,0,_,hw.cell b _ _ mcs 1 _ rfl,hw.free b _ _ mcs 1,d 0 _ rfl,d 1 _ rfl,d 2 _ rfl,rfl,h2,?_,tu.put 1 (.slice (some ⟨ob,0,none⟩) L.length (L.length + 1 + m)) _ rfl⟩;have hd:c.opened.dropLast=L:=by rw [hl];simp
 rw [hd];have:=Core.Is.of (Core.mk c.depth L c.done c.e c.word c.chunks c.lack c.s c.c) T b post (ob:=ob) (m:=m + 1) (spare:=[.bool t.pairs,.int .i64 t.count,.int .i64 (t.parts:Int)] ++ spare) (by simp;omega) (by show L.length + (m + 1) <= maxLen;omega) h3;simp only at this;rw [show L.length + (m + 1)=L.length + 1 + m by omega] at this;exact this
theorem aAb {n : Nat} (hi : c.Is T b post h) (hw : Own.Has w h) (hf : c.Fits n) (hn : n ≤ 1000000) :
  Calls prog 194 #[.pointer (some ⟨b,0,none⟩)] w (bN c.break T b post h w):=by
 have HFl:=hhh (cZ hi hw 2);rcases List.eq_nil_or_concat c.opened with h0 | ⟨L,t,h0⟩
 ·have HP:=hhh (show c.break=c.fail 2 by unfold Core.break;rw [h0];rfl)
  obtain ⟨oa,oc,sa,sc,ho,hs,rfl,h1,h2⟩:=hi.cV;have c1:=hw.cell b _ _ mcs 1 _ rfl;rw [h0] at c1;simp only [List.length_nil] at c1;clear hi hw h1 h2 hf h0;generalize c.fail 2=o at HP HFl;go_enter func194,ntmps194;go_wp2_with (fail);refine HFl.o.mono ?_;rintro e w1 ⟨v,hv,h',rfl,hs,i1,t1⟩;have HI:=hhh i1;have HT:=hhh t1;have HS:=hhh hs;clear i1 t1 hs;go_wp2;go_ret;rw [HP.o];exact ⟨_,hv,h',rfl,HS.o,HI.o,HT.o⟩
 ·rw [List.concat_eq_append] at h0
  have hN16:L.length < 16:=by have h16:=Nat.le_trans hf.deep hf.depth;rw [h0] at h16;simp at h16;omega
  have HP0:c.break=if 0 <= t.count \/ (t.pairs=true /\ t.parts % 2=1) then c.fail 2 else (Core.mk c.depth c.opened.dropLast c.done c.e c.word c.chunks c.lack c.s c.c).value .close:=by unfold Core.break;rw [h0];simp
  obtain ⟨ob,m,x0,h1,c1,f1,d0,d1,d2,-,hm,i1,t1⟩:=hi.shut L t h0 (Own.aA.refl hw);have hd:(Core.mk c.depth c.opened.dropLast c.done c.e c.word c.chunks c.lack c.s c.c).Fits n :=
   ⟨hf.depth,by have:=hf.deep;show c.opened.dropLast.length <= c.depth;rw [List.length_dropLast];omega,fun t ht=>hf.aW t ((List.dropLast_sublist c.opened).subset ht),hf.e,hf.s,hf.c⟩
  have HV:=hhh (dX i1 t1.has hd hn .close);have HT1:=hhh t1;generalize c.fail 2=o at HP0 HFl;generalize (Core.mk c.depth c.opened.dropLast c.done c.e c.word c.chunks c.lack c.s c.c).value .close=o2 at HP0 HV;generalize c.break=O at HP0 |-;have e1:=aH7 t.parts;have e2:=aBz t.parts;have hlt:=Nat.mod_lt t.parts (show 0 < 2 by omega);have htop:((L.length + 1:Nat):Int) - 1=(L.length:Int):=by omega
  generalize L.length=N at *
  clear h0 hi hw hf hd i1 t1 hn;obtain ⟨y,ct,k⟩:=t;simp only at *
  generalize k % 2=r at e1 e2 HP0 hlt;have fin:∀ P:Core × List Part,O=P -> ∀ (e:Ending) (w':World),bN P T b post h w e w' -> bN O T b post h w e w':=fun P hP e w' hd=>hP ▸ hd
  have Fin:=hhh fin;clear fin;by_cases hcn:0 <= ct
  ·have HP:=hhh (show O=o by rw [HP0,ifp (.inl hcn)])
   clear HP0 HV HT1;go_enter func194,ntmps194;go_wp2_with (fail);refine HFl.o.mono ?_;rintro e w1 ⟨v,hv,h',rfl,hs,i1,t1⟩;have HI:=hhh i1;have HT:=hhh t1;have HS:=hhh hs;clear i1 t1 hs;go_wp2;go_ret;exact Fin.o _ HP.o _ _ ⟨_,hv,h',rfl,HS.o,HI.o,HT.o⟩
  ·have hcn':ct < 0:=by omega
   obtain rfl | rfl:r=0 \/ r=1:=by omega
   all_goals cases y
   case neg.inr.true =>
    have HP:=hhh (show O=o by rw [HP0,ifp (.inr ⟨rfl,rfl⟩)]);clear HP0 HV HT1;go_enter func194,ntmps194;go_wp2_with (fail);refine HFl.o.mono ?_;rintro e w1 ⟨v,hv,h',rfl,hs,i1,t1⟩;have HI:=hhh i1;have HT:=hhh t1;have HS:=hhh hs;clear i1 t1 hs;go_wp2;go_ret;exact Fin.o _ HP.o _ _ ⟨_,hv,h',rfl,HS.o,HI.o,HT.o⟩
   all_goals
    have HP:=hhh (show O=o2 by rw [HP0,ifn (by simp;omega)]);clear HP0 HFl;go_enter func194,ntmps194;go_wp2_with (fail);refine HV.o.mono ?_;rintro e w1 ⟨v,hv,h',rfl,hs,i1,t1⟩;have HI:=hhh i1;have HT:=hhh (HT1.o.trans t1);have HS:=hhh hs;clear i1 t1 hs;go_wp2;go_ret;exact Fin.o _ HP.o _ _ ⟨_,hv,h',rfl,HS.o,HI.o,HT.o⟩
end
end Pip
end
section
open Go.RowKit
open Json (Part)
namespace Pip
theorem infoU8:(prog.info? 5).map (fun i=>(i.zero,i.size,i.bytes))=some (some (.int .u8 0),1,1):=by kernel_rfl
def Core.dK (c:Core) (word chunks:Bool) (lack:Nat) (s:List UInt8) (k:Esc.Chk):Core:=⟨c.depth,c.opened,c.done,c.e,word,chunks,lack,s,k⟩
section
variable {c:Core} {T:TypeId} {b:Nat} {post:List Value} {h:Own.Heap} {w:World}
theorem kU {n : Nat} (hi : c.Is T b post h) (hw : Own.Has w h) (hf : c.Fits n) (hn : n ≤ 1000000) :
  Calls prog 184 #[.pointer (some ⟨b,0,none⟩)] w (bN c.text T b post h w):=by
 have hd:(c.dK c.word false c.lack [] c.c).Fits n:=⟨hf.depth,hf.deep,hf.aW,hf.e,by have:=hf.s;show ([]:List UInt8).length + c.lack <= 200;rw [List.length_nil];omega,hf.c⟩;have HP0:c.text=(c.dK c.word false c.lack [] c.c).value (if c.word then .word ⟨c.s.toArray⟩ else .cW ⟨c.s.toArray⟩):=rfl;obtain ⟨oa,oc,sa,sc,ho,hs,rfl,h1,h2⟩:=hi.cV;have c4:=hw.cell b _ _ mcs 4 _ rfl;have c5:=hw.cell b _ _ mcs 5 _ rfl;have c7:=hw.cell b _ _ mcs 7 _ rfl;have f5:=hw.free b _ _ mcs 5;have f7:=hw.free b _ _ mcs 7;have hcv:(convert 55 9 (.slice sa c.s.length sc)).run prog w = .ok (.string ⟨c.s.toArray⟩) w :=
  Own.Slc.jG c.s 55 9 underlying55 underlying5 underlying9 h2 (Own.Has.right (Own.Has.right (a:=[_]) hw))
 have T1 : Own.aA (Own.row b T (c.cells (.slice oa c.opened.length oc) (.slice sa c.s.length sc) ++ post) :: (ho ++ hs))
   ((Own.row b T ((c.dK c.word false c.lack [] c.c).cells (.slice oa c.opened.length oc) (.slice none 0 0) ++ post) :: ho) ++ hs) w ((w.setCell ⟨b,7,none⟩ (.slice none 0 0)).setCell ⟨b,5,none⟩ (.bool false)) :=
  ((Own.aA.refl hw).put 7 (.slice none 0 0) _ rfl).put 5 (.bool false) _ rfl
 have HT:=hhh T1.drop;have i1:(c.dK c.word false c.lack [] c.c).Is T b post (Own.row b T ((c.dK c.word false c.lack [] c.c).cells (.slice oa c.opened.length oc) (.slice none 0 0) ++ post) :: ho) :=
  ⟨_,_,ho,[],h1,.bare none rfl,by rw [List.append_nil]⟩
 have HV:=hhh (fun v=>dX i1 HT.o.has hd hn v);obtain ⟨S,hS⟩:∃ S:ByteArray,S=⟨c.s.toArray⟩:=⟨_,rfl⟩;rw [<- hS] at hcv HP0;generalize c.text=O at HP0 |-;have HPb:=fun (h:c.word=false)=>HP0.trans (by rw [ifn (by rw [h];exact Bool.false_ne_true)])
 have HPw:=fun (h:c.word=true)=>HP0.trans (by rw [ifp h])
 clear hS hi hw hf h1 h2 T1 i1 hd HP0
 cases hwd:c.word
 ·rw [hwd] at c4
  have HP:=hhh (HPb hwd);have HVv:=hhh (HV.o (.cW S));clear hwd HPb HPw HV;go_enter func184,ntmps184;go_wp2_with (fail);refine HVv.o.mono ?_;rintro e w1 ⟨v,hv,h',rfl,hs,i1,t1⟩;have HI:=hhh i1;have HT2:=hhh (HT.o.trans t1);have HS:=hhh hs;clear i1 t1 hs HVv HT;go_wp2;go_ret;rw [HP.o];exact ⟨_,hv,h',rfl,HS.o,HI.o,HT2.o⟩
 ·rw [hwd] at c4
  have HP:=hhh (HPw hwd);have HVv:=hhh (HV.o (.word S));clear hwd HPb HPw HV;go_enter func184,ntmps184;go_wp2_with (fail);refine HVv.o.mono ?_;rintro e w1 ⟨v,hv,h',rfl,hs,i1,t1⟩;have HI:=hhh i1;have HT2:=hhh (HT.o.trans t1);have HS:=hhh hs;clear i1 t1 hs HVv HT;go_wp2;go_ret;rw [HP.o];exact ⟨_,hv,h',rfl,HS.o,HI.o,HT2.o⟩
theorem iC {n : Nat} (hi : c.Is T b post h) (hw : Own.Has w h) (hf : c.Fits n) (hn : n ≤ 1000000) (word : Bool) (m : Nat) :
  Calls prog 191 #[.pointer (some ⟨b,0,none⟩),.bool word,.int .u64 (m:Int)] w (bN (c.length word m) T b post h w):=by
 have hs200:=hf.s;have HFl:=hhh (cZ hi hw 5);have HP0:c.length word m=if 200 - c.s.length < m then c.fail 5 else if 0 < m \/ c.chunks=true then (c.dK word c.chunks m c.s Chk_zero,[]) else (c.dK word c.chunks m c.s Chk_zero).text:=rfl
 obtain ⟨oa,oc,sa,sc,ho,hs,rfl,h1,h2⟩:=hi.cV;have c4:=hw.cell b _ _ mcs 4 _ rfl;have c5:=hw.cell b _ _ mcs 5 _ rfl;have c6:=hw.cell b _ _ mcs 6 _ rfl;have c7:=hw.cell b _ _ mcs 7 _ rfl;have c8:=hw.cell b _ _ mcs 8 _ rfl;have c9:=hw.cell b _ _ mcs 9 _ rfl;have c10:=hw.cell b _ _ mcs 10 _ rfl;have c11:=hw.cell b _ _ mcs 11 _ rfl;have f4:=hw.free b _ _ mcs 4;have f6:=hw.free b _ _ mcs 6;have f8:=hw.free b _ _ mcs 8;have f9:=hw.free b _ _ mcs 9;have f10:=hw.free b _ _ mcs 10;have f11:=hw.free b _ _ mcs 11
 have T1 := fun (_ : m ≤ 200) => (show Own.aA (Own.row b T (c.cells (.slice oa c.opened.length oc) (.slice sa c.s.length sc) ++ post) :: (ho ++ hs))
   (Own.row b T ((c.dK word c.chunks m c.s Chk_zero).cells (.slice oa c.opened.length oc) (.slice sa c.s.length sc) ++ post) :: (ho ++ hs)) w
   ((((((w.setCell ⟨b,4,none⟩ (.bool word)).setCell ⟨b,6,none⟩ (.int .i64 (m:Int))).setCell ⟨b,8,none⟩ (.int .i64 0)).setCell ⟨b,9,none⟩ (.int .u8 0)).setCell ⟨b,10,none⟩ (.int .u8 0)).setCell ⟨b,11,none⟩ (.bool false)) from
  ((((((Own.aA.refl hw).put 4 (.bool word) _ rfl).put 6 (.int .i64 (m:Int)) _ rfl).put 8 (.int .i64 0) _ rfl).put 9 (.int .u8 0) _ rfl).put 10 (.int .u8 0) _ rfl).put 11 (.bool false) _ rfl)
 have i1:(c.dK word c.chunks m c.s Chk_zero).Is T b post (Own.row b T ((c.dK word c.chunks m c.s Chk_zero).cells (.slice oa c.opened.length oc) (.slice sa c.s.length sc) ++ post) :: (ho ++ hs)):=⟨_,_,ho,hs,h1,h2,rfl⟩;have HI1:=hhh i1;obtain ⟨K,hK⟩:∃ K,K=200 - c.s.length:=⟨_,rfl⟩;have hsub:(200:Int) - (c.s.length:Int)=(K:Int):=by omega
 have hK200:K <= 200:=by omega
 rw [<- hK] at HP0;have hd:=fun (hm:m <= K)=>(show (c.dK word c.chunks m c.s Chk_zero).Fits n from ⟨hf.depth,hf.deep,hf.aW,hf.e,by show c.s.length + m <= 200;omega,Nat.zero_le _⟩)
 generalize c.length word m=O at HP0 |-;have fin:∀ P:Core × List Part,O=P -> ∀ (e:Ending) (w':World),bN P T b post (Own.row b T (c.cells (.slice oa c.opened.length oc) (.slice sa c.s.length sc) ++ post) :: (ho ++ hs)) w e w' -> bN O T b post (Own.row b T (c.cells (.slice oa c.opened.length oc) (.slice sa c.s.length sc) ++ post) :: (ho ++ hs)) w e w':=fun P hP e w' hd=>hP ▸ hd
 have Fin:=hhh fin;clear fin hi i1 h1 h2 hs200 hK;by_cases hlt:K < m
 ·have HP:=hhh (show O=c.fail 5 by rw [HP0,ifp hlt])
  have hltI:(K:Int) < (m:Int):=by omega
  clear HP0 hd T1 hf hw c4 c5 c6 c8 c9 c10 c11 f4 f6 f8 f9 f10 f11;go_enter func191,ntmps191;go_wp2_with (fail);refine HFl.o.mono ?_;rintro e w1 ⟨v,hv,h',rfl,hs,i1,t1⟩;have HI:=hhh i1;have HT2:=hhh t1;have HS:=hhh hs;clear i1 t1 hs;go_wp2;go_ret;exact Fin.o _ HP.o _ _ ⟨_,hv,h',rfl,HS.o,HI.o,HT2.o⟩
 ·have hltI:¬ (K:Int) < (m:Int):=by omega
  have hm200:m <= 200:=by omega
  have HT1:=hhh (T1 hm200);have hd1:=hd (by omega);rw [ifn hlt] at HP0;have HTx:=hhh (kU HI1.o HT1.o.has hd1 hn);clear T1 hd hd1 HFl hlt hf hw;have hwm:IntKind.i64.wrap (m:Int)=(m:Int):=by rw [IntKind.wrap_i64];omega
  rcases Nat.eq_zero_or_pos m with h0 | h0
  ·subst h0
   cases hch:c.chunks
   ·have HP:=hhh (HP0.trans (ifn (by rw [hch];simp)))
    rw [hch] at c5;clear HP0;go_enter func191,ntmps191;go_wp2_with (fail);refine HTx.o.mono ?_;rintro e w1 ⟨v,hv,h',rfl,hs,i1,t1⟩;have HI:=hhh i1;have HT2:=hhh (HT1.o.trans t1);have HS:=hhh hs;clear i1 t1 hs;go_wp2;go_ret;exact Fin.o _ HP.o _ _ ⟨_,hv,h',rfl,HS.o,HI.o,HT2.o⟩
   ·have HP:=hhh (HP0.trans (ifp (.inr hch)))
    rw [hch] at c5;clear HP0;go_enter func191,ntmps191;go_wp2_with (fail);go_ret;exact Fin.o _ HP.o _ _ (.bJ rfl HI1.o HT1.o)
  ·have HP:=hhh (HP0.trans (ifp (.inl h0)))
   have h0I:(0:Int) < (m:Int):=by omega
   clear HP0 HTx;go_enter func191,ntmps191;go_wp2_with (fail);go_ret;exact Fin.o _ HP.o _ _ (.bJ rfl HI1.o HT1.o)
end
end Pip
end
section
open Go.RowKit
open Json (Part)
namespace Pip
section
variable {c:Core} {T:TypeId} {b:Nat} {post:List Value} {h:Own.Heap} {w:World}
theorem Core.Is.check (hi : c.Is T b post h) (hw : Own.Has w h) (x : UInt8) (hl : c.c.lack ≤ 3) :
  Calls prog 168 #[.pointer (some ⟨b,8,none⟩),.int .u8 (x.toNat:Int)] w fun e w'=>e = .returned (.bool (c.c.step x).2) /\ ∃ h',(c.dK c.word c.chunks c.lack c.s (c.c.step x).1).Is T b post h' /\ Own.aA h h' w w':=by
 obtain ⟨ov,sv,ho,hs,h1,h2,rfl⟩:=hi;have ha:At.Is w b T [.int .i64 (c.depth:Int),ov,.bool c.done,.int .i64 (c.e:Int),.bool c.word,.bool c.chunks,.int .i64 (c.lack:Int),sv] c.c.enc post:=hw.is3 mcs;refine (Esc.kL w b T _ post c.c x hl ha).mono ?_;rintro e w' ⟨rfl,h3,h4⟩;exact ⟨rfl,_,⟨ov,sv,ho,hs,h1,h2,rfl⟩,Own.aA.only hw h3 h4⟩
theorem Core.Is.whole (hi : c.Is T b post h) (hw : Own.Has w h) :
  Calls prog 160 #[.pointer (some ⟨b,8,none⟩)] w fun e w'=>e = .returned (.bool c.c.whole) /\ w=w':=by
 obtain ⟨ov,sv,ho,hs,h1,h2,rfl⟩:=hi;have ha:At.Is w b T [.int .i64 (c.depth:Int),ov,.bool c.done,.int .i64 (c.e:Int),.bool c.word,.bool c.chunks,.int .i64 (c.lack:Int),sv] c.c.enc post:=hw.is3 mcs;refine (Esc.qB w b T _ post c.c ha).mono ?_;rintro e w' ⟨rfl,h3⟩;exact ⟨rfl,h3⟩
theorem uN {n : Nat} (hi : c.Is T b post h) (hw : Own.Has w h) (hf : c.Fits n) (hn : n ≤ 1000000) (hl : 0 < c.lack) (x : UInt8) :
  Calls prog 179 #[.pointer (some ⟨b,0,none⟩),.int .u8 (x.toNat:Int)] w (bN (c.byte x) T b post h w):=by
 obtain ⟨i0,hi0,e0⟩:=Option.map_eq_some_iff.1 infoU8;simp only [Prod.mk.injEq] at e0;obtain ⟨hz,hsz,hby⟩:=e0;have Hi:=hhh (ai hi0 (ai hz (ai hsz hby)));have hs200:=hf.s;have hck:=hf.c;have hFd:=hf.fed hl x;have HP0:c.byte x=if c.word=true /\ ((c.c.step x).2=false \/ (c.lack=1 /\ (c.chk x).whole=false)) then (c.fed x).fail 9 else if 1 < c.lack \/ c.chunks=true then (c.fed x,[]) else (c.fed x).text:=rfl
 have hchk:c.chk x=if c.word then (c.c.step x).1 else c.c:=rfl
 have hfed:c.fed x=c.dK c.word c.chunks (c.lack - 1) (c.s ++ [x]) (c.chk x):=rfl;obtain ⟨oa,oc,sa,sc,ho,hs,rfl,h1,h2⟩:=hi.cV;have c7:=hw.cell b _ _ mcs 7 _ rfl;have hW:Own.Has w (hs ++ (Own.row b T (c.cells (.slice oa c.opened.length oc) (.slice sa c.s.length sc) ++ post) :: ho)):=(Own.Has.swap (a:=_ :: ho) hw);have HW:=hhh hW;have HS:=hhh h2;have hM:c.s.length < 200:=by omega
 have HMl:=hhh (fR c.s)
 have Hpm:=hhh (show (Own.row b T (c.cells (.slice oa c.opened.length oc) (.slice sa c.s.length sc) ++ post) :: (ho ++ hs)).Perm (hs ++ (Own.row b T (c.cells (.slice oa c.opened.length oc) (.slice sa c.s.length sc) ++ post) :: ho)) from
  List.perm_append_comm (l₁:=_ :: ho))
 obtain ⟨K,hK⟩:∃ K,K=c.lack - 1:=⟨_,rfl⟩;have hKl:c.lack=K + 1:=by omega
 have HIs:=hhh (fun (sv:Value) (hs':Own.Heap) (h2':Own.Slc 5 (u8s (c.s ++ [x])) sv hs')=>(show (c.dK c.word c.chunks K (c.s ++ [x]) c.c).Is T b post (Own.row b T ((c.dK c.word c.chunks K (c.s ++ [x]) c.c).cells (.slice oa c.opened.length oc) sv ++ post) :: (ho ++ hs')) from
  ⟨_,sv,ho,hs',h1,h2',rfl⟩))
 rw [hfed,<- hK] at hFd HP0;have h1K:(1 < c.lack \/ c.chunks=true) ↔ (0 < K \/ c.chunks=true):=by
  rw [hKl];constructor
  ·rintro (h | h)
   ·exact .inl (by omega)
   ·exact .inr h
  ·rintro (h | h)
   ·exact .inl (by omega)
   ·exact .inr h
 have h1L:c.lack=1 ↔ K=0:=by omega
 simp only [h1K,h1L] at HP0;generalize c.byte x=O at HP0 |-
 have HPf:=hhh (fun (hwd:c.word=false)=>(show (O=if 0 < K \/ c.chunks=true then (c.dK c.word c.chunks K (c.s ++ [x]) c.c,[]) else (c.dK c.word c.chunks K (c.s ++ [x]) c.c).text) /\ (c.dK c.word c.chunks K (c.s ++ [x]) c.c).Fits n by
  have hk:c.chk x=c.c:=by rw [hchk,hwd];rfl
  rw [hk] at HP0 hFd
  exact ⟨by rw [HP0,ifn (by rw [hwd];rintro ⟨h,_⟩;cases h)],hFd⟩))
 have HPt:=hhh (fun (hwd:c.word=true)=>(show (O=if (c.c.step x).2=false \/ (K=0 /\ (c.c.step x).1.whole=false) then (c.dK c.word c.chunks K (c.s ++ [x]) (c.c.step x).1).fail 9 else if 0 < K \/ c.chunks=true then (c.dK c.word c.chunks K (c.s ++ [x]) (c.c.step x).1,[]) else (c.dK c.word c.chunks K (c.s ++ [x]) (c.c.step x).1).text) /\ (c.dK c.word c.chunks K (c.s ++ [x]) (c.c.step x).1).Fits n by
  have hk:c.chk x=(c.c.step x).1:=by rw [hchk,hwd];rfl
  rw [hk] at HP0 hFd;refine ⟨?_,hFd⟩;by_cases hq:(c.c.step x).2=false \/ (K=0 /\ (c.c.step x).1.whole=false)
  ·rw [HP0,ifp ⟨hwd,hq⟩,ifp hq]
  ·rw [HP0,ifn (fun h=>hq h.2),ifn hq]))
 have fin:∀ P:Core × List Part,O=P -> ∀ (e:Ending) (w':World),bN P T b post (Own.row b T (c.cells (.slice oa c.opened.length oc) (.slice sa c.s.length sc) ++ post) :: (ho ++ hs)) w e w' -> bN O T b post (Own.row b T (c.cells (.slice oa c.opened.length oc) (.slice sa c.s.length sc) ++ post) :: (ho ++ hs)) w e w':=fun P hP e w' hd=>hP ▸ hd
 have Fin:=hhh fin;have Hn:=hhh hn;have Hck:=hhh hck;have HKl:=hhh hKl;have hkm:((K + 1:Nat):Int) - 1=(K:Int):=by omega
 have hK8:K < 200:=by omega
 clear fin hi hw hf h1 h2 hi0 hz hsz hby hW hs200 hck hFd HP0 hchk hfed hl hK hn h1K h1L hKl;go_enter func179,ntmps179;go_wp2_with (at_builtin;go_loud (refine Own.bQ w.heap.size rfl rfl _ _ 55 rfl 5 i0 (.int .u8 0) 1 underlying55 Hi.o.1 Hi.o.2.1 Hi.o.2.2.1 Hi.o.2.2.2 rfl (.slice sa c.s.length sc) (u8s c.s) c.s.length HMl.o hs _ rfl HS.o HW.o _ rfl rfl ?c1 ?c2 ?_))
 case c1=>simp only [maxLen];omega
 case c2=>omega
 intro ad' c' h' w1 hs' ht';have S1:=hhh (show Own.Slc 5 (u8s (c.s ++ [x])) (.slice ad' (c.s.length + 1) c') h' by rw [aBy];exact hs')
 have T1:=hhh (show Own.aA (Own.row b T (c.cells (.slice oa c.opened.length oc) (.slice sa c.s.length sc) ++ post) :: (ho ++ hs)) (Own.row b T (c.cells (.slice oa c.opened.length oc) (.slice sa c.s.length sc) ++ post) :: (ho ++ h')) w w1 from
  ht'.perm Hpm.o.symm (List.perm_append_comm (l₂:=_ :: ho)))
 have g7:=T1.o.has.free b _ _ mcs 7;have g6:=T1.o.has.free b _ _ mcs 6;have d6:=T1.o.has.cell b _ _ mcs 6 _ rfl;have d7:=T1.o.has.cell b _ _ mcs 7 _ rfl;have d4:=T1.o.has.cell b _ _ mcs 4 _ rfl;have d5:=T1.o.has.cell b _ _ mcs 5 _ rfl;rw [HKl.o] at d6
 have T2 := hhh (show Own.aA (Own.row b T (c.cells (.slice oa c.opened.length oc) (.slice sa c.s.length sc) ++ post) :: (ho ++ hs)) (Own.row b T ((c.dK c.word c.chunks K (c.s ++ [x]) c.c).cells (.slice oa c.opened.length oc) (.slice ad' (c.s.length + 1) c') ++ post) :: (ho ++ h')) w
   ((w1.setCell ⟨b,7,none⟩ (.slice ad' (c.s.length + 1) c')).setCell ⟨b,6,none⟩ (.int .i64 (K:Int))) from (T1.o.put 7 (.slice ad' (c.s.length + 1) c') _ rfl).put 6 (.int .i64 (K:Int)) _ rfl)
 have I2:=hhh (HIs.o _ _ S1.o);have HCk:=hhh (I2.o.check T2.out.has x Hck.o);clear hs' ht' HIs S1 T1 HS HW HMl Hpm
 cases hwd:c.word
 ·obtain ⟨hP,hF⟩:=HPf.o hwd
  rw [hwd] at d4;have HTx:=hhh (kU I2.o T2.out.has hF Hn.o);clear HPf HPt hwd hF HCk;rcases Nat.eq_zero_or_pos K with h0 | h0
  ·subst h0
   cases hch:c.chunks
   ·have HP:=hhh (hP.trans (ifn (by rw [hch];simp)))
    rw [hch] at d5;clear hP hch;go_wp2_with (fail);refine HTx.o.mono ?_;rintro e w2 ⟨v,hv,h2,rfl,hs,i2,t2⟩;have HI:=hhh i2;have HT2:=hhh (T2.out.trans t2);have HS:=hhh hs;clear i2 t2 hs HTx T2;go_wp2;go_ret;exact Fin.o _ HP.o _ _ ⟨_,hv,h2,rfl,HS.o,HI.o,HT2.o⟩
   ·have HP:=hhh (hP.trans (ifp (.inr hch)))
    rw [hch] at d5;clear hP hch HTx;go_wp2_with (fail);go_ret;exact Fin.o _ HP.o _ _ (.bJ rfl I2.o T2.out)
  ·have HP:=hhh (hP.trans (ifp (.inl h0)))
   have h0I:(0:Int) < (K:Int):=by omega
   clear hP HTx;go_wp2_with (fail);go_ret;exact Fin.o _ HP.o _ _ (.bJ rfl I2.o T2.out)
 ·obtain ⟨hP,hF⟩:=HPt.o hwd
  rw [hwd] at d4;have HFF:=hhh hF;clear HPf HPt hwd hF;rw [show (c.dK c.word c.chunks K (c.s ++ [x]) c.c).c=c.c from rfl] at HCk;generalize c.c.step x=sx at hP HFF HCk;obtain ⟨k2,ok⟩:=sx;simp only at hP HFF;have HPh:=hhh hP;clear hP;go_wp2_with (fail);refine HCk.o.mono ?_;rintro e w2 ⟨rfl,h2,i2,t2⟩;have HI:=hhh (show (c.dK c.word c.chunks K (c.s ++ [x]) k2).Is T b post h2 from i2);have T3:=hhh (T2.out.trans t2);obtain ⟨-,-,-,e5,e6⟩:=HI.o.cell T3.o.has;replace e5:w2.cell? ⟨b,5,none⟩=some (.bool c.chunks):=e5;replace e6:w2.cell? ⟨b,6,none⟩=some (.int .i64 (K:Int)):=e6;clear i2 t2 HCk T2 I2 d4 d5 d6 d7 g6 g7;have HFl:=hhh (cZ HI.o T3.o.has 9);have HTx:=hhh (kU HI.o T3.o.has HFF.o Hn.o);have HWh:=hhh (HI.o.whole T3.o.has);rw [show (c.dK c.word c.chunks K (c.s ++ [x]) k2).c=k2 from rfl] at HWh
  cases ok
  ·have HP:=hhh (HPh.o.trans (ifp (.inl rfl)))
   clear HPh HTx HWh;go_wp2_with (fail);refine HFl.o.mono ?_;rintro e w3 ⟨v,hv,h3,rfl,hs,i3,t3⟩;have HI3:=hhh i3;have HT3:=hhh (T3.o.trans t3);have HS:=hhh hs;clear i3 t3 hs;go_wp2;go_ret;exact Fin.o _ HP.o _ _ ⟨_,hv,h3,rfl,HS.o,HI3.o,HT3.o⟩
  ·rcases Nat.eq_zero_or_pos K with h0 | h0
   ·subst h0
    generalize k2.whole=wh at HPh HWh;go_wp2_with (fail);refine HWh.o.mono ?_;rintro e w3 ⟨rfl,rfl⟩
    cases wh
    ·have HP:=hhh (HPh.o.trans (ifp (by simp)))
     clear HPh HTx HWh;go_wp2_with (fail);refine HFl.o.mono ?_;rintro e w3 ⟨v,hv,h3,rfl,hs,i3,t3⟩;have HI3:=hhh i3;have HT3:=hhh (T3.o.trans t3);have HS:=hhh hs;clear i3 t3 hs;go_wp2;go_ret;exact Fin.o _ HP.o _ _ ⟨_,hv,h3,rfl,HS.o,HI3.o,HT3.o⟩
    ·have hP:=HPh.o.trans (ifn (by simp))
     clear HWh HFl HPh
     cases hch:c.chunks
     ·have HP:=hhh (hP.trans (ifn (by rw [hch];simp)))
      rw [hch] at e5;clear hP hch;go_wp2_with (fail);refine HTx.o.mono ?_;rintro e w3 ⟨v,hv,h3,rfl,hs,i3,t3⟩;have HI3:=hhh i3;have HT3:=hhh (T3.o.trans t3);have HS:=hhh hs;clear i3 t3 hs;go_wp2;go_ret;exact Fin.o _ HP.o _ _ ⟨_,hv,h3,rfl,HS.o,HI3.o,HT3.o⟩
     ·have HP:=hhh (hP.trans (ifp (.inr hch)))
      rw [hch] at e5;clear hP hch HTx;go_wp2_with (fail);go_ret;exact Fin.o _ HP.o _ _ (.bJ rfl HI.o T3.o)
   ·have HP:=hhh ((HPh.o.trans (ifn (by simp;omega))).trans (ifp (.inl h0)))
    have h0I:(0:Int) < (K:Int):=by omega
    have h0b:((K:Int) == 0)=false:=by rw [bfn];omega
    clear HPh HTx HWh HFl;go_wp2_with (fail);go_ret;exact Fin.o _ HP.o _ _ (.bJ rfl HI.o T3.o)
end
end Pip
end
end Go.Proofs.YtcjflgmcjfcodaaGreat
