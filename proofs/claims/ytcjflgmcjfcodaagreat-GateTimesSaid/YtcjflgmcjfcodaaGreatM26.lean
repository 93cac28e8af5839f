/- Texts of the walk, joined. -/
import Derived.Test.YtcjflgmcjfcodaaGreatM02
import Derived.Test.YtcjflgmcjfcodaaGreatM05
import Derived.Deep.DeepCutAuto
import Derived.Deep.OwnRows
import Derived.Deep.RegionLaw
import Derived.StillTailTactics
set_option maxRecDepth 100000
set_option maxHeartbeats 8000000
namespace Go.Proofs.Tryz end Go.Proofs.Tryz
namespace Go.Proofs.YtcjflgmcjfcodaaGreat
open Go.Proofs.Tryz
section
open Go.RowKit
namespace Json
structure Txt (ok:Part -> Prop) (text:Part -> List UInt8) (B:Nat) (Tb:World -> Prop):Prop where
 len:∀ p,ok p -> (text p).length <= 6010
 any:∀ p,ok p -> ∀ u,Tb u -> Calls prog 213 #[p.val] u fun r w'=>r = .returned (.string ⟨(text p).toArray⟩) /\ Below u.heap.size u w'
 of:∀ u v,Tb u -> Below B u v -> Tb v
def Wr.all (text:Part -> List UInt8):Wr -> List Evt -> List UInt8 × Nat
 | w,[]=>([],if w.done then 0 else 3)
 | w,e :: l =>
  match e.part with
  | none=>([],1)
  | some p=>if (w.step text p).2.1=0 then ((w.step text p).1 ++ (Wr.all text (w.step text p).2.2 l).1,(Wr.all text (w.step text p).2.2 l).2) else ([],(w.step text p).2.1)
structure Wr.Fits (w:Wr) (n:Nat):Prop where
 deep:w.opened.length <= n
 parts:∀ c ∈ w.opened,c.parts <= n
theorem dE (c:Box):c.ahead.length <= 1:=by
 unfold Box.ahead;split
 ·simp
 ·split <;> simp
theorem Wr.eH {ok:Part -> Prop} {text:Part -> List UInt8} {B:Nat} {Tb:World -> Prop} (TX:Txt ok text B Tb) (w:Wr) (p:Part) (hp:ok p):(w.step text p).1.length <= 6011:=by
 have ht:=TX.len p hp;unfold Wr.step;split
 ·simp
 ·cases p with
  | close =>
   dsimp only
   split
   ·simp
   ·split <;> simp
  | _ =>
   dsimp only
   split
   ·first | (simp;done) | (dsimp only;omega)
   ·rename_i c hc
    have:=dE c;split
    ·simp
    ·first | (simp only [lla];omega) | (simp only [lla,List.length_singleton];omega)
def boxes (l:List Box):List Value:=l.flatMap fun c=>[.bool c.pairs,.int .i64 (c.parts:Int)]
theorem gJ (l r:List Box):boxes (l ++ r)=boxes l ++ boxes r:=by simp [boxes]
theorem cM (l:List Box):(boxes l).length=l.length * 2:=by
 induction l with
 | nil=>rfl
 | cons c l ih=>rw [boxes,List.flatMap_cons,lla];rw [boxes] at ih;rw [ih];simp;omega
def Wr.Is (W:Wr) (wb:Nat) (h:Own.Heap):Prop :=
 ∃ lv hl,h=Own.row wb 145 [lv,.bool W.done] :: hl /\ Own.Slk 2 277 W.opened.length (boxes W.opened) lv hl
theorem Wr.Is.zero (wb:Nat):Wr.zero.Is wb [Own.row wb 145 [.slice none 0 0,.bool false]]:=⟨_,_,rfl,.bare none rfl rfl⟩
def Wr.ahead (w:Wr):List UInt8:=match w.opened.getLast? with | none=>[] | some c=>c.ahead
def Wr.aR (w:Wr):List Box:=match w.opened.getLast? with | none=>[] | some c=>w.opened.dropLast ++ [⟨c.pairs,c.parts + 1⟩]
def Wr.bad (w:Wr) (p:Part):Bool:=match w.opened.getLast? with | none=>false | some c=>c.pairs && !c.aK && !p.isWord
theorem Wr.aId (text:Part -> List UInt8) (w:Wr) (p:Part) (hp:p.may=true) (hc:p.isClose=false) (hd:w.done=false) (hb:w.bad p=true):w.step text p=([],8,w):=by
 unfold Wr.bad at hb
 cases hl:w.opened.getLast? with
 | none=>rw [hl] at hb;cases hb
 | some c =>
  rw [hl] at hb;simp only at hb
  cases p with
  | close=>cases hc
  | _=>simp only [Wr.step,hp,hd,hl,hb,Bool.not_true,Bool.or_false,if_true];simp
theorem Wr.aAc (text : Part → List UInt8) (w : Wr) (m : Bool) (c : Int) (hp : (Part.aG m c).may = true) (hd : w.done = false) (hb : w.bad (.aG m c) = false) :
  w.step text (.aG m c)=(w.ahead ++ [if m then 123 else 91],0,⟨w.aR ++ [⟨m,0⟩],false⟩):=by
 unfold Wr.bad at hb;unfold Wr.ahead Wr.aR
 cases hl:w.opened.getLast? with
 | none=>simp [Wr.step,hp,hd,hl]
 | some x =>
  rw [hl] at hb;simp only at hb;simp only [Wr.step,hp,hd,hl,hb,Bool.not_true,Bool.or_false];simp
theorem Wr.aAm (text : Part → List UInt8) (w : Wr) (p : Part) (hp : p.may = true) (hc : p.isClose = false) (hg : p.isBegin = false) (hd : w.done = false) (hb : w.bad p = false) :
  w.step text p=(w.ahead ++ text p,0,⟨w.aR,decide (w.opened.length=0)⟩):=by
 unfold Wr.bad at hb;unfold Wr.ahead Wr.aR
 cases hl:w.opened.getLast? with
 | none =>
  have h0:w.opened=[]:=List.getLast?_eq_none_iff.1 hl
  cases p with
  | close=>cases hc
  | aG m c=>cases hg
  | _=>simp [Wr.step,hp,hd,h0]
 | some x =>
  have h0:w.opened ≠ []:=by intro h;rw [h] at hl;cases hl
  rw [hl] at hb;simp only at hb
  cases p with
  | close=>cases hc
  | aG m c=>cases hg
  | _=>simp only [Wr.step,hp,hd,hl,hb,Bool.not_true,Bool.or_false];simp [h0]
theorem Wr.pW (text:Part -> List UInt8) (l:List Box) (c:Box) (hb:c.aK=true):(Wr.mk (l ++ [c]) false).step text .close=([],14,⟨l ++ [c],false⟩):=by
 simp [Wr.step,Part.may,hb]
theorem Wr.oO (text : Part → List UInt8) (l : List Box) (c : Box) (hb : c.aK = false) :
  (Wr.mk (l ++ [c]) false).step text .close=([if c.pairs then 125 else 93],0,⟨l,decide (l.length=0)⟩):=by
 simp [Wr.step,Part.may,hb]
theorem Wr.dD (w:Wr):w.aR.length=w.opened.length:=by
 unfold Wr.aR
 cases hl:w.opened.getLast? with
 | none=>rw [List.getLast?_eq_none_iff.1 hl]
 | some c =>
  have hpos:0 < w.opened.length:=List.length_pos_of_mem (List.mem_of_getLast? hl);simp;omega
end Json
end
section
open Go.RowKit
namespace Json
variable {text:Part -> List UInt8}
theorem Wr.Is.last {W : Wr} {wb : Nat} {h : Own.Heap} (hi : W.Is wb h) (L : List Box) (c : Box) (hl : W.opened = L ++ [c]) :
  ∃ b m spare,h=[Own.row wb 145 [.slice (some ⟨b,0,none⟩) (L.length + 1) (L.length + 1 + m),.bool W.done],Own.row b 277 (boxes L ++ ([.bool c.pairs,.int .i64 (c.parts:Int)] ++ spare))] /\
   spare.length=m * 2 /\ L.length + 1 + m <= maxLen:=by
 obtain ⟨lv,hl',rfl,hs⟩:=hi;rw [hl] at hs;obtain ⟨b,m,spare,rfl,rfl,h1,h2⟩:=hs.at_ (by simp);refine ⟨b,m,spare,?_,h1,by simpa using h2⟩;rw [gJ];simp [boxes]
theorem Wr.Is.of {wb b m : Nat} (L : List Box) (spare : List Value) (done : Bool) (hs : spare.length = m * 2) (hm : L.length + m ≤ maxLen) :
  (Wr.mk L done).Is wb [Own.row wb 145 [.slice (some ⟨b,0,none⟩) L.length (L.length + m),.bool done],Own.row b 277 (boxes L ++ spare)] :=
 ⟨_,_,rfl,.row b m spare (cM L) hs hm⟩
theorem Wr.Is.head {W:Wr} {wb:Nat} {h:Own.Heap} (hi:W.Is wb h):∃ a c hl,h=Own.row wb 145 [.slice a W.opened.length c,.bool W.done] :: hl /\ Own.Slk 2 277 W.opened.length (boxes W.opened) (.slice a W.opened.length c) hl:=by
 obtain ⟨lv,hl,rfl,hs⟩:=hi;obtain ⟨a,c,rfl⟩:=hs.len;exact ⟨a,c,hl,rfl,hs⟩
theorem aLp (k:Nat):((k:Int)).tmod 2=((k % 2:Nat):Int):=by rw [Int.tmod_eq_emod_of_nonneg (by omega)];omega
theorem aHw (k:Nat):((k:Int)) % 2=((k % 2:Nat):Int):=by omega
theorem bY (y : Bool) (k : Nat) (w : World) :
  Calls prog 212 #[.agg #[.bool y,.int .i64 (k:Int)]] w fun e w'=>e = .returned (.bool (Box.mk y k).aK) /\ Below w.heap.size w w':=by
 have B0:=hhh (fun o=>(Below.refl w.heap.size w).alloc (Nat.le_refl _) o);have e1:=aLp k;have e2:=aHw k;have hb:(Box.mk y k).aK=(y && decide (k % 2=1)):=rfl;have hlt:=Nat.mod_lt k (show 0 < 2 by omega);generalize k % 2=r at e1 e2 hb hlt;have HB:=hhh hb;clear hb
 cases y
 ·go_enter func212,ntmps212
  go_wp2;go_ret;exact ⟨by rw [HB.o];rfl,B0.o _⟩
 ·obtain rfl | rfl:r=0 \/ r=1:=by omega
  all_goals
   go_enter func212,ntmps212;go_wp2;go_ret;exact ⟨by rw [HB.o];rfl,B0.o _⟩
theorem fS {W : Wr} {wb n : Nat} {h : Own.Heap} {w : World} (hi : W.Is wb h) (hw : Own.Has w h) (hf : W.Fits n) (hn : n ≤ 100000) (hd : W.done = false) :
  Calls prog 211 #[.pointer (some ⟨wb,0,none⟩)] w fun e w'=>e = .returned (.tuple #[.string ⟨(W.step text .close).1.toArray⟩,.int .i64 ((W.step text .close).2.1:Int)]) /\
   ∃ h',(W.step text .close).2.2.Is wb h' /\ Own.aA h h' w w':=by
 obtain ⟨l,d⟩:=W;simp only at hd;subst hd;rcases List.eq_nil_or_concat l with rfl | ⟨L,c,rfl⟩
 ·have hI:=hhh hi
  have hW:=hhh hw;obtain ⟨a,cc,hl,rfl,hs⟩:=hi.head;have c0:=hw.cell wb _ _ mcs 0 _ rfl;simp only [List.length_nil] at c0;clear hs hw hi;go_enter func211,ntmps211;go_wp2;go_ret2;exact ⟨rfl,_,hI.o,Own.aA.refl hW.o⟩
 ·rw [List.concat_eq_append] at *
  obtain ⟨b,m,spare,rfl,hsl,hm⟩:=hi.last L c rfl;obtain ⟨N,hN⟩:∃ N,N=L.length:=⟨_,rfl⟩;have hN1:N < 100000:=by have:=hf.deep;simp at this;omega
  have hc:=hhh (show c.parts <= 100000 by have:=hf.parts c (by simp);omega);have hW:=hhh hw;have c0:=hw.cell wb _ _ mcs 0 _ rfl;have f0:=hw.free wb _ _ mcs 0;have f1:=hw.free wb _ _ mcs 1;have e0:=hw.cell b _ _ (mcm _ mcs) (N * 2) (.bool c.pairs) (by rw [hN,<- cM,List.getElem?_append_right (by omega)];simp);have e1:=hw.cell b _ _ (mcm _ mcs) (N * 2 + 1) (.int .i64 (c.parts:Int)) (by rw [hN,<- cM,List.getElem?_append_right (by omega)];simp);rw [<- hN] at c0;have HN:=hhh hN;have HB:=hhh (fun w=>bY c.pairs c.parts w);have hI:=hhh hi;clear hN hw hi hf;go_enter func211,ntmps211;go_wp2_with (fail);refine (HB.o _).mono ?_;rintro e W1 ⟨rfl,b1⟩;have t1:=Own.aA.aJ hW.o b1;have c0:=t1.has.cell wb _ _ mcs 0 _ rfl;rw [<- HN.o] at c0;have e0:=t1.has.cell b _ _ (mcm _ mcs) (N * 2) (.bool c.pairs) (by rw [HN.o,<- cM,List.getElem?_append_right (by omega)];simp);have e1:=t1.has.cell b _ _ (mcm _ mcs) (N * 2 + 1) (.int .i64 (c.parts:Int)) (by rw [HN.o,<- cM,List.getElem?_append_right (by omega)];simp);have d0:=fun o=>(t1.aD o).has.cell wb _ _ mcs 0 _ rfl
  simp only [<- HN.o] at d0;have d1:=fun o=>(t1.aD o).has.cell wb _ _ mcs 1 _ rfl
  have f0:=fun o=>(t1.aD o).has.free wb _ _ mcs 0
  have f1:=fun o=>(t1.aD o).has.free wb _ _ mcs 1
  have hlt:=t1.has.cL;have hne:¬ wb=W1.heap.size:=by omega
  have hne':¬ W1.heap.size=wb:=by omega
  clear HB hlt;have HF:=hhh (fun o=>((t1.aD o).set 0 (.slice (some ⟨b,0,none⟩) N (N + 1 + m)) (by simp)).set 1 (.bool ((N:Int) == 0)) (by simp));have hdec:=hhh (show ((N:Int) == 0)=decide (L.length=0) by rw [HN.o,Bool.eq_iff_iff];simp)
  have HI:=hhh (fun (d:Bool)=>by
   have:=Wr.Is.of (wb:=wb) (b:=b) (m:=m + 1) L ([.bool c.pairs,.int .i64 (c.parts:Int)] ++ spare) d (by simp;omega) (by omega);rw [show L.length + (m + 1)=N + 1 + m by have:=HN.o;omega,<- HN.o] at this
   exact this)
  obtain ⟨y,k⟩:=c;generalize hb:(Box.mk y k).aK=bt;have Hb:=hhh hb;clear hb
  cases bt
  ·cases y
   all_goals
    go_wp2;go_ret2;rw [Wr.oO text L ⟨_,k⟩ Hb.o];have t2:=HF.o;simp only [hdec.o] at t2 |-;exact ⟨rfl,_,HI.o _,t2 _⟩
  ·go_wp2
   go_ret2;have hX:=Wr.pW text L ⟨y,k⟩ Hb.o;rw [hX];exact ⟨rfl,_,hI.o,t1⟩
theorem cB (p:Part) (V:Value) (hV:V=p.val) (w:World):∃ a b m s c,Calls prog 121 #[V] w fun r w'=>r = .returned (.tuple #[.agg #[.int .i64 a,.bool b,.int .u64 (m:Nat),.string s,.int .i64 c],.bool p.may]) /\ Below w.heap.size w w':=by
 subst hV;have h:=dR p w;unfold fB at h
 cases hm:p.may with
 | true=>rw [hm] at h;exact ⟨p.evt.kind,p.evt.yes,p.evt.mag,p.evt.text,p.evt.count,h⟩
 | false=>rw [hm] at h;exact ⟨0,false,0,⟨#[]⟩,0,h⟩
theorem gW {W : Wr} {wb n : Nat} {h : Own.Heap} {w : World} (hi : W.Is wb h) (hw : Own.Has w h) (hf : W.Fits n) (hn : n ≤ 100000) (hd : W.done = false) :
  Calls prog 210 #[.pointer (some ⟨wb,0,none⟩),Part.close.val] w fun e w'=>e = .returned (.tuple #[.string ⟨(W.step text .close).1.toArray⟩,.int .i64 ((W.step text .close).2.1:Int)]) /\
   ∃ h',(W.step text .close).2.2.Is wb h' /\ Own.aA h h' w w':=by
 have a5:=eK .close;obtain ⟨V,hV⟩:∃ V,V=Part.close.val:=⟨_,rfl⟩;obtain ⟨a,b,m,s,c,hc⟩:=cB .close V hV w;rw [<- hV] at a5 |-;have HX:=hhh (fun u (k:Own.Has u h)=>fS (text:=text) hi k hf hn hd);have hW:=hhh hw;obtain ⟨lv,hl,rfl,hs⟩:=hi;clear hs hw hf;have HC:=hhh hc;clear hc hV;generalize W.step text .close=R at HX |-;obtain ⟨R1,R2,R3⟩:=R;rw [show Part.close.may=true from rfl] at HC;rw [show Part.close.isClose=true from rfl,show Part.close.inClose = .agg #[] from rfl] at a5;rw [hd] at hW HX |-;go_enter func210,ntmps210;go_wp2_with (fail);refine HC.o.mono ?_;rintro e W1 ⟨rfl,b1⟩;have t1:=Own.aA.aJ hW.o b1;have c1:=fun o=>(t1.aD o).has.cell wb _ _ mcs 1 _ rfl
 go_wp2_with (fail);refine (HX.o _ ((t1.aD _).aD _).has).mono ?_;rintro e W2 ⟨rfl,h',i2,t2⟩;go_wp2;go_ret2;exact ⟨rfl,h',i2,((t1.aD _).aD _).trans t2⟩
end Json
end
section
open Go.RowKit
namespace Json
theorem step_end {W : Wr} {wb : Nat} {h : Own.Heap} {w : World} (hi : W.Is wb h) (hw : Own.Has w h) (p : Part) (hp : p.may = false ∨ W.done = true) :
  Calls prog 210 #[.pointer (some ⟨wb,0,none⟩),p.val] w fun e w'=>e = .returned (.tuple #[.string ⟨#[]⟩,.int .i64 14]) /\ Own.aA h h w w':=by
 obtain ⟨V,hV⟩:∃ V,V=p.val:=⟨_,rfl⟩;obtain ⟨a,b,m,s,c,hc⟩:=cB p V hV w;rw [<- hV];have hI:=hhh hi;have hW:=hhh hw;obtain ⟨lv,hl,rfl,hs⟩:=hi;clear hs hw;have HC:=hhh hc;clear hc hV;generalize p.may=y at HC hp;have HP:=hhh hp;clear hp;go_enter func210,ntmps210;go_wp2_with (fail);refine HC.o.mono ?_;rintro e W1 ⟨rfl,b1⟩;have t1:=Own.aA.aJ hW.o b1;have c1:=fun o=>(t1.aD o).has.cell wb _ _ mcs 1 _ rfl
 cases y
 ·go_wp2
  go_ret2;exact ⟨rfl,t1.aD _⟩
 ·have hd:W.done=true:=by rcases HP.o with h | h;cases h;exact h
  simp only [hd] at c1;go_wp2;go_ret2;exact ⟨rfl,t1.aD _⟩
end Json
end
section
open Go.RowKit
namespace Json
variable {ok:Part -> Prop} {text:Part -> List UInt8} {Tb:World -> Prop}
theorem Wr.Fits.aR {W:Wr} {n:Nat} (h:W.Fits n):(Wr.mk W.aR false).Fits (n + 1):=by
 unfold Wr.aR
 cases hl:W.opened.getLast? with
 | none=>exact ⟨Nat.zero_le _,fun c hc=>by cases hc⟩
 | some c =>
  have hm:c ∈ W.opened:=List.mem_of_getLast? hl;have:=h.deep;have:=h.parts c hm;refine ⟨by simp;omega,fun x hx=>?_⟩;simp only [List.mem_append,List.mem_singleton] at hx;rcases hx with hx | rfl
  ·have:=h.parts x ((List.dropLast_sublist _).subset hx);omega
  ·show c.parts + 1 <= _;omega
theorem mZ {W : Wr} {wb n B : Nat} {h : Own.Heap} {w : World} (hi : W.Is wb h) (hw : Own.Has w h) (hf : W.Fits n) (hn : n ≤ 100000) (hd : W.done = false)
  (TX:Txt ok text B Tb) (hB:∀ x ∈ Own.blocks h,B <= x) (T:Tb w) (p:Part) (hm:p.may=true) (hc:p.isClose=false) (hp:ok p) :
  Calls prog 210 #[.pointer (some ⟨wb,0,none⟩),p.val] w fun e w'=>e = .returned (.tuple #[.string ⟨(W.step text p).1.toArray⟩,.int .i64 ((W.step text p).2.1:Int)]) /\
   ∃ h',(W.step text p).2.2.Is wb h' /\ Own.aA h h' w w':=by
 have a5:=eK p;have a3:=jA p;have a6:=eP p;have HT:=hhh (fun u (t:Tb u)=>TX.any p hp u t);obtain ⟨V,hV⟩:∃ V,V=p.val:=⟨_,rfl⟩;obtain ⟨a,b,m,s,c,hpl⟩:=cB p V hV w;rw [<- hV] at a3 a5 a6 HT |-;have HV:=hhh hV;clear hV;rw [hm] at hpl;have HC:=hhh hpl;clear hpl;have h5:p.inClose = .agg #[]:=rfl;rw [hc,h5] at a5;have hW:=hhh hw;have hI:=hhh hi;have hbad:=hhh (Wr.aId text W p hm hc hd);have hF:=hhh hf.aR;have hf':=hhh hf;have hdl:=hhh hd;have HB:=hhh hB;have HT0:=hhh T;have HU:=hhh TX;have Hp:=hhh hp;have Hm:=hhh hm;have Hc:=hhh hc;obtain ⟨ad,cc,hl,rfl,hs⟩:=hi.head;rw [hd] at hW hI |-;obtain ⟨N,hN⟩:∃ N,N=W.opened.length:=⟨_,rfl⟩;have hS:=hhh hs;rw [<- hN] at hW hI hS HB |-;have HN:=hhh hN;have hNb:N <= 100000:=by have:=hf.deep;omega
 clear hs hw hi hf TX hB T hp hm hc hd h5 hN;go_enter func210,ntmps210;go_wp2_with (fail);refine HC.o.mono ?_;rintro e W1 ⟨rfl,b1⟩;have t1:=Own.aA.aJ hW.o b1;have c1:=fun o=>(t1.aD o).has.cell wb _ _ mcs 1 _ rfl
 have c0:=fun o o'=>((t1.aD o).aD o').has.cell wb _ _ mcs 0 _ rfl
 go_upto_if 51 with (fail)
 go_cut [10,11] (fun s10 _ wx=>W.bad p=false /\ ∃ h2,s10 = .string ⟨W.ahead.toArray⟩ /\ (Wr.mk W.aR false).Is wb h2 /\ Own.aA (Own.row wb 145 [.slice ad N cc,.bool false] :: hl) h2 w wx)
 case first =>
  rcases List.eq_nil_or_concat W.opened with h0 | ⟨L,c,h0⟩
  ·have hN0:=HN.o
   rw [h0] at hN0;obtain rfl:N=0:=hN0;have hbu:=hhh (show W.aR=W.opened by unfold Wr.aR;rw [h0];rfl);have hah:=hhh (show W.ahead=[] by unfold Wr.ahead;rw [h0];rfl);have hbd0:=hhh (show W.bad p=false by unfold Wr.bad;rw [h0];rfl);clear h0;go_wp2_with (fail)
   go_meet
   case rel =>
    refine ⟨hbd0.o,_,by rw [hah.o],?_,(t1.aD _).aD _⟩;rw [hbu.o,show Wr.mk W.opened false=W by rw [<- hdl.o]];exact hI.o
  ·rw [List.concat_eq_append] at h0
   have hN0:=HN.o;rw [h0,lla,List.length_singleton] at hN0;obtain ⟨K,hK⟩:∃ K,K=L.length:=⟨_,rfl⟩;rw [<- hK] at hN0;subst hN0;have hK1:K < 100000:=by have:=hf'.out.deep;rw [h0] at this;simp at this;omega
   have hk1:c.parts <= 100000:=by have:=hf'.out.parts c (by rw [h0];simp);omega
   obtain ⟨b2,m2,spare,e1,rfl,hsl,hm2⟩:=hS.o.at_ (by omega);injection e1 with e2 _ e3
   subst e2 e3;have hbx:boxes W.opened=boxes L ++ [.bool c.pairs,.int .i64 (c.parts:Int)]:=by rw [h0,gJ];simp [boxes]
   have hgl:W.opened.getLast? = some c:=by rw [h0];simp
   have hah:=hhh (show W.ahead=c.ahead by unfold Wr.ahead;rw [hgl]);have hbu:=hhh (show W.aR=L ++ [⟨c.pairs,c.parts + 1⟩] by unfold Wr.aR;rw [hgl,h0];simp);have hbd:=hhh (show W.bad p=(c.pairs && !c.aK && !p.isWord) by unfold Wr.bad;rw [hgl]);obtain ⟨y,k⟩:=c;simp only at hk1;have hbt:=hhh (show (Box.mk y k).aK=(y && decide (k % 2=1)) from rfl);have hgo:=hhh (show (Box.mk y k).ahead=if (Box.mk y k).aK then [58] else if 0 < k then [44] else [] from rfl);have HBt:=hhh (fun u=>bY y k u)
   have FX := hhh (fun (u : World) (t : Own.aA (Own.row wb 145 [.slice (some ⟨b2, 0, none⟩) (K + 1) (K + 1 + m2), .bool false] :: [Own.row b2 277 (boxes W.opened ++ spare)])
     (Own.row wb 145 [.slice (some ⟨b2,0,none⟩) (K + 1) (K + 1 + m2),.bool false] :: [Own.row b2 277 (boxes W.opened ++ spare)]) w u)=>by
    have e0:=t.has.cell b2 _ _ (mcm _ mcs) (K * 2) (.bool y) (by rw [hbx,List.append_assoc,hK,<- cM,List.getElem?_append_right (by omega)];simp);have e1:=t.has.cell b2 _ _ (mcm _ mcs) (K * 2 + 1) (.int .i64 (k:Int)) (by rw [hbx,List.append_assoc,hK,<- cM,List.getElem?_append_right (by omega)];simp);have f1:=t.has.free b2 _ _ (mcm _ mcs) (K * 2 + 1)
    exact ai e0 (ai e1 f1))
   have FY := hhh (fun (u : World) (t : Own.aA (Own.row wb 145 [.slice (some ⟨b2, 0, none⟩) (K + 1) (K + 1 + m2), .bool false] :: [Own.row b2 277 (boxes W.opened ++ spare)])
     (Own.row wb 145 [.slice (some ⟨b2,0,none⟩) (K + 1) (K + 1 + m2),.bool false] :: [Own.row b2 277 (boxes W.opened ++ spare)]) w u)=>by
    have t':=t.setAt [_] (K * 2 + 1) (.int .i64 ((k:Int) + 1)) (by rw [hbx,hK];simp [cM]);have hset:(boxes W.opened ++ spare).set (K * 2 + 1) (.int .i64 ((k:Int) + 1))=boxes (L ++ [⟨y,k + 1⟩]) ++ spare:=by
     rw [hbx,List.append_assoc,hK,<- cM,List.set_append_right _ _ (by omega),gJ];simp [boxes]
    rw [hset] at t'
    exact t')
   have HI2:=hhh (show (Wr.mk (L ++ [⟨y,k + 1⟩]) false).Is wb (Own.row wb 145 [.slice (some ⟨b2,0,none⟩) (K + 1) (K + 1 + m2),.bool false] :: [Own.row b2 277 (boxes (L ++ [⟨y,k + 1⟩]) ++ spare)]) by
    have:=Wr.Is.of (wb:=wb) (b:=b2) (m:=m2) (L ++ [⟨y,k + 1⟩]) spare false hsl (by simp;omega);rw [show (L ++ [(⟨y,k + 1⟩:Box)]).length=K + 1 by simp [hK]] at this
    exact this)
   have d0:=fun o o'=>(FX.out _ ((t1.aD o).aD o')).1
   have d1:=fun o o'=>(FX.out _ ((t1.aD o).aD o')).2.1
   have T2:=hhh (fun o o'=>(t1.aD o).aD o');have HI0:=hhh hI.o;clear hbx hgl h0 hK hsl hm2 hS t1;have hk1':(((K + 1:Nat):Int)) - 1=(K:Int):=by omega
   generalize (Box.mk y k).aK=bt at hbd hbt hgo HBt
   have fin : ∀ (tmps : Array Value) (u : World), Own.aA (Own.row wb 145 [.slice (some ⟨b2, 0, none⟩) (K + 1) (K + 1 + m2), .bool false] :: [Own.row b2 277 (boxes W.opened ++ spare)])
     (Own.row wb 145 [.slice (some ⟨b2,0,none⟩) (K + 1) (K + 1 + m2),.bool false] :: [Own.row b2 277 (boxes W.opened ++ spare)]) w u ->
     ∃ h2,(Wr.mk W.aR false).Is wb h2 /\ Own.aA (Own.row wb 145 [.slice (some ⟨b2,0,none⟩) (K + 1) (K + 1 + m2),.bool false] :: [Own.row b2 277 (boxes W.opened ++ spare)]) h2 w (u.setCell ⟨b2,K * 2 + 1,none⟩ (.int .i64 ((k:Int) + 1))):=by
    intro _ u t;rw [hbu.o];exact ⟨_,HI2.o,FY.out _ t⟩
   have Fin:=hhh fin;clear fin FY HI2;have hkw:IntKind.i64.wrap ((k:Int) + 1)=(k:Int) + 1:=by rw [IntKind.wrap_i64];omega
   cases y
   ·have hbf:bt=false:=by have:=hbt.o;simpa using this
    subst hbf;have hgb:=hhh (show W.bad p=false by rw [hbd.o];rfl);have hg1:=hhh (fun h:0 < k=>(show W.ahead=[44] by rw [hah.o,hgo.o];simp [h]));have hg0:=hhh (fun h:k=0=>(show W.ahead=[] by rw [hah.o,hgo.o];simp [h]));clear hbt hbd;go_wp2_with (fail);refine (HBt.o _).mono ?_;rintro e W2 ⟨rfl,b3⟩;have t3:=(T2.o _ _).trans (Own.aA.aJ (T2.o _ _).has b3);obtain ⟨x0,x1,x2⟩:=FX.out _ t3;clear d0 d1 c0 c1;rcases Nat.eq_zero_or_pos k with hk0 | hk0
    ·have hgx:=hhh (hg0.o hk0)
     obtain rfl:k=0:=hk0;clear hg0 hg1;go_wp2_with (fail)
     go_meet
     case rel =>
      obtain ⟨h2,i2,t4⟩:=Fin.o #[] _ t3;exact ⟨hgb.o,h2,by rw [hgx.o],i2,t4⟩
    ·have hgx:=hhh (hg1.o hk0)
     have hk0':(0:Int) < (k:Int):=by omega
     clear hg0 hg1;go_wp2_with (fail)
     go_meet
     case rel =>
      obtain ⟨h2,i2,t4⟩:=Fin.o #[] _ t3;exact ⟨hgb.o,h2,by rw [hgx.o],i2,t4⟩
   ·go_wp2_with (fail)
    refine (HBt.o _).mono ?_;rintro e W2 ⟨rfl,b3⟩;have t3:=(T2.o _ _).trans (Own.aA.aJ (T2.o _ _).has b3);obtain ⟨x0,x1,x2⟩:=FX.out _ t3;clear d0 d1 c0 c1
    cases bt
    ·have hg1:=hhh (fun h:0 < k=>(show W.ahead=[44] by rw [hah.o,hgo.o];simp [h]))
     have hg0:=hhh (fun h:k=0=>(show W.ahead=[] by rw [hah.o,hgo.o];simp [h]))
     cases hiw:p.isWord
     ·have hbb:=hbad.o (by rw [hbd.o,hiw];rfl)
      have Hbb:=hhh hbb;clear hbb hiw;go_wp2_with (fail);go_ret2;rw [Hbb.o];exact ⟨rfl,_,HI0.o,t3⟩
     ·have hgb:=hhh (show W.bad p=false by rw [hbd.o,hiw];rfl)
      clear hiw hbd;go_wp2_with (fail);refine (HBt.o _).mono ?_;rintro e W3 ⟨rfl,b4⟩;have t4:=t3.trans (Own.aA.aJ t3.has b4);obtain ⟨x0,x1,x2⟩:=FX.out _ t4;rcases Nat.eq_zero_or_pos k with hk0 | hk0
      ·have hgx:=hhh (hg0.o hk0)
       obtain rfl:k=0:=hk0;clear hg0 hg1;go_wp2_with (fail)
       go_meet
       case rel =>
        obtain ⟨h2,i2,t4⟩:=Fin.o #[] _ t4;exact ⟨hgb.o,h2,by rw [hgx.o],i2,t4⟩
      ·have hgx:=hhh (hg1.o hk0)
       have hk0':(0:Int) < (k:Int):=by omega
       clear hg0 hg1;go_wp2_with (fail)
       go_meet
       case rel =>
        obtain ⟨h2,i2,t4⟩:=Fin.o #[] _ t4;exact ⟨hgb.o,h2,by rw [hgx.o],i2,t4⟩
    ·have hgx:=hhh (show W.ahead=[58] by rw [hah.o,hgo.o];rfl)
     have hgb:=hhh (show W.bad p=false by rw [hbd.o];rfl);clear hbd;go_wp2_with (fail);refine (HBt.o _).mono ?_;rintro e W3 ⟨rfl,b4⟩;have t4:=t3.trans (Own.aA.aJ t3.has b4);obtain ⟨x0,x1,x2⟩:=FX.out _ t4;go_wp2_with (fail)
     go_meet
     case rel =>
      obtain ⟨h2,i2,t4⟩:=Fin.o #[] _ t4;exact ⟨hgb.o,h2,by rw [hgx.o],i2,t4⟩
 case rest =>
  obtain ⟨hbad0,h2,rfl,i2,t2⟩:=hcut;have HBad:=hhh hbad0;clear hbad0;have hal:W.ahead.length <= 1:=by
   unfold Wr.ahead;split
   ·simp
   ·exact dE _
  generalize hA:(⟨W.ahead.toArray⟩:ByteArray)=A;have hAs:A.size <= 1:=by rw [<- hA];exact hal
  have HA:=hhh hA;clear hA hal;have hcat:∀ l:List UInt8,A ++ ⟨l.toArray⟩=⟨(W.ahead ++ l).toArray⟩:=fun l=>by
   rw [<- HA.o];apply ByteArray.ext;simp
  have Hcat:=hhh hcat;clear hcat c0 c1;obtain ⟨ad2,cc2,hl2,rfl,s2⟩:=i2.head;have hN2:W.aR.length <= 100001:=by have:=hF.o.deep;simp only at this;omega
  have HFx:=hhh (fun o=>(t2.aD o))
  cases hg:p.isBegin
  ·have hbd:W.bad p=false:=HBad.o
   have hst:=hhh (Wr.aAm text W p Hm.o Hc.o hg hdl.o hbd);have hib:p.inBegin = .agg #[.bool false,.int .i64 0]:=by cases p <;> first | rfl | cases hg
   rw [hg,hib] at a6;have Hsm:=HU.o.len p Hp.o;generalize hS5:(⟨(text p).toArray⟩:ByteArray)=S5 at HT;have hS5s:S5.size <= 6010:=by rw [<- hS5];exact Hsm
   have hfin:=hhh (Hcat.o (text p));rw [hS5] at hfin;obtain ⟨N2,hN2e⟩:∃ N2,N2=W.aR.length:=⟨_,rfl⟩;have hlen:=hhh (show ((N2:Int) == 0)=decide (W.opened.length=0) by rw [hN2e,Wr.dD,Bool.eq_iff_iff];simp);have i3:=hhh (fun d=>(⟨_,_,rfl,s2⟩:(Wr.mk W.aR d).Is wb (Own.row wb 145 [.slice ad2 W.aR.length cc2,.bool d] :: hl2)));rw [<- hN2e] at i3 s2 HFx hN2;have S2:=hhh s2;have t3:=hhh (fun o=>(HFx.o o).set 1 (.bool ((N2:Int) == 0)) (by simp));have HTx:=hhh (fun o=>HT.o _ (HU.o.of _ _ HT0.o ((t3.o o).below HB.o (Nat.le_trans (HB.o wb mcs) (Nat.le_of_lt hW.o.cL)))));clear hN2e s2 hbd hib hg Hsm hS5 i2 t2;have c0:=fun o=>(HFx.o o).has.cell wb _ _ mcs 0 _ rfl
   have c1:=fun o=>(HFx.o o).has.cell wb _ _ mcs 1 _ rfl
   have f1:=fun o=>(HFx.o o).has.free wb _ _ mcs 1
   go_wp2_with (fail);refine (HTx.o _).mono ?_;rintro e W5 ⟨rfl,b5⟩;go_wp2;go_ret2;rw [hst.o];have t5:=(t3.o _).trans (Own.aA.aJ (t3.o _).has b5);rw [hlen.o] at t5;refine ⟨?_,_,i3.o _,t5⟩;rw [<- hfin.o];rfl
  ·cases p with
   | aG m2 c2 =>
    have hbd:W.bad (.aG m2 c2)=false:=HBad.o;have hst:=hhh (Wr.aAc text W m2 c2 Hm.o hdl.o hbd);rw [show (Part.aG m2 c2).isBegin=true from rfl,show (Part.aG m2 c2).inBegin = .agg #[.bool m2,.int .i64 c2] from rfl] at a6;have hcats:=hhh (ai (Hcat.o [123]) (Hcat.o [91]));obtain ⟨i0,hi,hz0,hz1,hz2⟩:=info_parts (P:=prog) (e:=277) (z:=.agg #[.bool false,.int .i64 0]) (size:=2) (bytes:=16) (by kernel_rfl);have Hi:=hhh (ai hi (ai hz0 (ai hz1 hz2)));have HN2:=hhh hN2;obtain ⟨N2,hN2e⟩:∃ N2,N2=W.aR.length:=⟨_,rfl⟩;rw [<- hN2e] at s2 HFx hN2;have S2:=hhh s2;have HN2e:=hhh hN2e;clear hbd hg s2 i2 hi hz0 hz1 hz2 hN2e;have c0:=fun o=>(HFx.o o).has.cell wb _ _ mcs 0 _ rfl
    have f0:=fun o=>(HFx.o o).has.free wb _ _ mcs 0
    have hA0:=Own.aA.drew (Own.aA.bC (Own.aA.alloc t2 (.cells #[.bool m2,.int .i64 c2] 218)) (wc.heap.size + 1) (size_alloc wc _) (.cells #[.bool m2,.int .i64 0] 277));rw [<- HN2e.o] at hA0
    have hA1 : Own.aA (Own.row wb 145 [.slice ad N cc, .bool false] :: hl) (Own.row (wc.heap.size + 1) 277 [.bool m2, .int .i64 0] :: Own.row wc.heap.size 218 [.bool m2, .int .i64 c2] :: Own.row wb 145 [.slice ad2 N2 cc2, .bool false] :: hl2) w
      (((wc.alloc (.cells #[.bool m2,.int .i64 c2] 218)).alloc (.cells #[.bool m2,.int .i64 0] 277)).drew):=hA0
    have hA2 : Own.aA (Own.row wb 145 [.slice ad N cc, .bool false] :: hl) (Own.row (wc.heap.size + 1) 277 [.bool m2, .int .i64 0] :: (hl2 ++ [Own.row wb 145 [.slice ad2 N2 cc2, .bool false], Own.row wc.heap.size 218 [.bool m2, .int .i64 c2]])) w
      (((wc.alloc (.cells #[.bool m2,.int .i64 c2] 218)).alloc (.cells #[.bool m2,.int .i64 0] 277)).drew):=hA1.perm (.refl _) (Own.aE _ _ fun x=>by simp only [List.count_append,List.count_cons,List.count_nil];omega)
    have HW:=hhh hA2;clear hA0 hA1 hA2;have hbz:=hhh (gJ W.aR [⟨m2,0⟩]);have c0':=fun o o'=>((HFx.o o).aD o').has.cell wb _ _ mcs 0 _ rfl
    have hltw:=t2.has.cL;have hne:¬ wb=wc.heap.size:=by omega
    have hne':¬ wc.heap.size=wb:=by omega
    clear HFx t2 hltw
    cases m2
    all_goals
     go_wp2_with (fail);go_region_law (refine Own.cC rfl _ _ 143 rfl 277 i0 (.agg #[.bool false,.int .i64 0]) 2 16 underlying143 Hi.o.1 Hi.o.2.1 Hi.o.2.2.1 Hi.o.2.2.2 rfl (.slice ad2 N2 cc2) N2 (boxes W.aR) hl2 [Own.row wb 145 [.slice ad2 N2 cc2,.bool false],Own.row wc.heap.size 218 [.bool _,.int .i64 c2]] rfl S2.o (wc.heap.size + 1) _ HW.o.has rfl rfl ?hy ?c1 ?c2 ?_;(case hy=>(intro u hu;simp only [List.mem_cons,List.not_mem_nil,or_false] at hu;rcases hu with rfl | rfl <;> rfl));(case c1=>(simp only [maxLen];omega));(case c2=>omega);intro ad' c' h' w1 hs' ht';have d0:=ht'.has.cell wb _ _ (mcm _ (List.mem_append_right _ mcs)) 0 _ rfl;have f0':=ht'.has.free wb _ _ (mcm _ (List.mem_append_right _ mcs)) 0;have d15:=ht'.has.cell wc.heap.size _ _ (mcm _ (List.mem_append_right _ (mcm _ mcs))) 0 _ rfl)
    all_goals
     have tB:=hhh ((((HW.o).trans ht').forget (b:=[_])).perm (.refl _) List.perm_append_comm);go_wp2;go_ret2;rw [hst.o];have tC:=(tB.o).set 0 (.slice ad' (N2 + 1) c') (by simp);have tD:=(tC.perm (.refl _) (List.Perm.cons _ (List.perm_append_comm (l₁:=[_]) (l₂:=h')))).drop (b:=_ :: h') (c:=[_]);refine ⟨?_,_,⟨.slice ad' (N2 + 1) c',h',rfl,?_⟩,tD⟩
     ·first
       | exact congrArg (fun x=>Ending.returned (.tuple #[.string x,.int .i64 0])) hcats.o.1
       | exact congrArg (fun x=>Ending.returned (.tuple #[.string x,.int .i64 0])) hcats.o.2
     ·simp only [lla,List.length_singleton,<- HN2e.o]
      rw [hbz.o];exact hs'
   | _=>cases hg
end Json
end
section
open Go.RowKit
namespace Json
variable {ok:Part -> Prop} {text:Part -> List UInt8} {Tb:World -> Prop}
theorem dN {W : Wr} {wb n B : Nat} {h : Own.Heap} {w : World} (hi : W.Is wb h) (hw : Own.Has w h) (hf : W.Fits n) (hn : n ≤ 100000)
  (TX:Txt ok text B Tb) (hB:∀ x ∈ Own.blocks h,B <= x) (T:Tb w) (p:Part) (hp:ok p) :
  Calls prog 210 #[.pointer (some ⟨wb,0,none⟩),p.val] w fun e w'=>e = .returned (.tuple #[.string ⟨(W.step text p).1.toArray⟩,.int .i64 ((W.step text p).2.1:Int)]) /\
   ∃ h',(W.step text p).2.2.Is wb h' /\ Own.aA h h' w w':=by
 have hend:(p.may=false \/ W.done=true) -> W.step text p=([],14,W):=fun h=>h.elim (Wr.aFe text W p) (Wr.step_done text W p)
 by_cases hm:p.may=false
 ·rw [hend (.inl hm)]
  refine (step_end hi hw p (.inl hm)).mono ?_;rintro e w' ⟨rfl,t⟩;exact ⟨rfl,h,hi,t⟩
 ·have hm':p.may=true:=by simpa using hm
  by_cases hd:W.done=true
  ·rw [hend (.inr hd)]
   refine (step_end hi hw p (.inr hd)).mono ?_;rintro e w' ⟨rfl,t⟩;exact ⟨rfl,h,hi,t⟩
  ·have hd':W.done=false:=by simpa using hd
   by_cases hc:p.isClose=true
   ·obtain rfl:p = .close:=by cases p <;> first | rfl | cases hc
    exact gW hi hw hf hn hd'
   ·exact mZ hi hw hf hn hd' TX hB T p hm' (by simpa using hc) hp
end Json
end
end Go.Proofs.YtcjflgmcjfcodaaGreat
