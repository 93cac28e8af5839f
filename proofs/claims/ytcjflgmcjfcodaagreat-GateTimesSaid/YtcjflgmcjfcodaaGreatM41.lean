/- Texts of the walk, joined. -/
import Derived.Test.YtcjflgmcjfcodaaGreatM38
import Derived.Test.YtcjflgmcjfcodaaGreatM40
import Derived.Deep.RegionWith
import Derived.StillTailTactics
set_option maxRecDepth 100000
set_option maxHeartbeats 8000000
namespace Go.Proofs.Tryz end Go.Proofs.Tryz
namespace Go.Proofs.YtcjflgmcjfcodaaGreat
open Go.Proofs.Tryz
section
open Go.RowKit
namespace Gate
section
variable {T:Esc.bA} {N:Nat} {l:Lay} {g:Ga} {w:World}
end
end Gate
end
section
open Go.RowKit
namespace Gate
open Purse (ints)
def Ga.dZ (g:Ga):Nat -> List Nat
 | 0=>[]
 | j + 1=>g.dZ j ++ (match g.slots[j]? with | some (some _)=>[g.ids.getD j 0] | _=>[])
def Ga.live (g:Ga):List Nat:=g.dZ g.n
theorem aFv (g:Ga) (j:Nat):(g.dZ j).length <= j:=by
 induction j with
 | zero=>exact Nat.le_refl _
 | succ j ih =>
  unfold Ga.dZ;rw [lla];split <;> simp <;> omega
section
variable {l:Lay} {g:Ga} {w:World}
theorem aGl (k : l.Good g) (h : Own.Has w (l.heap g)) : Calls prog 15 #[.pointer (some ⟨l.gb, 0, none⟩)] w fun e w' => ∃ ad c ho, e = .returned (.slice ad g.live.length c) ∧
  Own.Slc 3 (ints g.live) (.slice ad g.live.length c) ho /\ Own.aA (l.heap g) (ho ++ l.heap g) w w':=by
 have c0:=cell h 0 _ rfl;have c1:=cell h 1 _ rfl;have h8:=k.small;obtain ⟨i0,hi,hz0,hz1,hz2⟩:=info_parts (P:=prog) (e:=3) (z:=.int .i64 0) (size:=1) (bytes:=8) (by kernel_rfl);have Hi:=hhh (ai hi (ai hz0 (ai hz1 hz2)));have HH:=hhh h;have K:=hhh k;have Hlv:=hhh (show g.live=g.dZ g.n from rfl);clear hi hz0 hz1 hz2 k;go_enter func15,ntmps15;go_wp2;go_loopw [3,13] (fun o i wr=>∃ (j m:Nat) (ad:Option Addr) (c:Nat) (ho:Own.Heap),o = .slice ad m c /\ i = .int .i64 j /\ j <= g.n /\ m=(g.dZ j).length /\ Own.Slc 3 (ints (g.dZ j)) (.slice ad m c) ho /\ Own.aA (l.heap g) (ho ++ l.heap g) w wr) (fun _ i _=>g.n - (intOf i).toNat)
 case atStart=>exact ⟨0,0,none,0,[],rfl,rfl,by omega,rfl,Own.Slc.bare none rfl,Own.aA.refl HH.o⟩
 case round =>
  obtain ⟨j,m,ad,c,ho,rfl,rfl,hj,hm,hs,ht⟩:=hrel;have HM:=hhh hm;have HSl:=hhh hs;have HT:=hhh ht;have hR:=ht.has.right;clear hm hs;by_cases hjn:j < g.n
  ·have hjv:j < l.vs.length:=by rw [K.o.wJ];exact hjn
   have hji:j < g.ids.length:=by rw [K.o.ids];exact hjn
   have hjs:j < g.slots.length:=by rw [K.o.len];exact hjn
   have hI:(j:Int) < (g.n:Int):=by omega
   have d0:=cell hR 0 _ rfl;have d1:=cell hR 1 _ rfl;have cs:=kJ hR j _ (List.getElem?_eq_getElem hjv);have ci:=oC hR j hji;have hml:m <= 8:=by have:=HM.o;have:=aFv g j;omega
   cases hs:g.slots[j]'hjs with
   | none =>
    have hs':g.slots[j]? = some none:=by rw [List.getElem?_eq_getElem hjs,hs]
    obtain ⟨hv,_⟩:=K.o.slots.mK j hs';rw [List.getElem?_eq_getElem hjv] at hv;rw [Option.some.inj hv] at cs;have HL:=hhh (show g.dZ (j + 1)=g.dZ j by rw [Ga.dZ,hs'];simp);clear hs hs' hv hR ht;go_wp2;go_roundw
    case rel=>exact ⟨j + 1,m,ad,c,ho,rfl,by go_num,by omega,by rw [HL.o];exact HM.o,by rw [HL.o];exact HSl.o,HT.o⟩
    case measure=>simp [intOf];omega
   | some s =>
    have hs':g.slots[j]? = some (some s):=by rw [List.getElem?_eq_getElem hjs,hs]
    obtain ⟨b,_,_,_,hv,_⟩:=K.o.slots.dT j s hs';rw [List.getElem?_eq_getElem hjv] at hv;rw [Option.some.inj hv] at cs;have HL:=hhh (show g.dZ (j + 1)=g.dZ j ++ [g.ids[j]'hji] by rw [Ga.dZ,hs'];simp [List.getD_eq_getElem?_getD,hji]);obtain ⟨y,hy⟩:∃ y,y=g.ids[j]'hji:=⟨_,rfl⟩;rw [<- hy] at ci HL;clear hs hs' hv hR ht hy;go_wp2_with (at_builtin;go_loud (refine Own.aX rfl _ _ 34 rfl 3 i0 (.int .i64 0) 8 underlying34 Hi.o.1 Hi.o.2.1 Hi.o.2.2.1 Hi.o.2.2.2 rfl (.slice ad m c) (ints (g.dZ j)) m ((List.length_map ..).trans HM.o.symm) ho (l.heap g) rfl HSl.o HT.o.has (.int .i64 (y:Int)) rfl rfl ?c1 ?c2 ?_))
    case c1=>simp only [maxLen];omega
    case c2=>omega
    intro ad' c' h' w1 hs' ht';go_wp2;go_roundw
    case rel =>
     refine ⟨j + 1,m + 1,ad',c',h',rfl,by go_num,by omega,by rw [HL.o,lla,HM.o];rfl,?_,HT.o.trans ht'⟩;rw [HL.o,show ints (g.dZ j ++ [y])=ints (g.dZ j) ++ [.int .i64 (y:Int)] by simp [ints]];exact hs'
    case measure=>simp [intOf];omega
  ·have hI:(g.n:Int) <= (j:Int):=by omega
   have HJ:=hhh (show j=g.n by omega);clear hR ht;go_wp2;go_ret;have e1:g.dZ j=g.live:=by rw [HJ.o];exact Hlv.o.symm
   have e2:m=g.live.length:=by rw [HM.o,e1]
   have e3:=HSl.o;rw [e1,e2] at e3
   first
   | exact ⟨ad,c,ho,by rw [e2];rfl,e3,HT.o⟩
   | trace_state
end
theorem uC {e : TypeId} {xs : List Value} {v : Value} {h : Own.Heap} (s : Own.Slc e xs v h) (h0 : 0 < xs.length) : ∃ b o c, v = .slice (some ⟨b, o, none⟩) xs.length c ∧
  ∀ w,Own.Has w h -> ∀ i (hi:i < xs.length),w.cell? ⟨b,o + i,none⟩=some (xs[i]'hi):=by
 cases s with
 | bare a hx=>subst hx;simp at h0
 | row b pre spare hm =>
  refine ⟨b,pre.length,_,rfl,fun w hw i hi=>hw.cell b e _ msr (pre.length + i) _ ?_⟩;rw [List.getElem?_append_right (by omega),Nat.add_sub_cancel_left,List.getElem?_append_left hi,List.getElem?_eq_getElem hi]
theorem aHx {xs ys : List Nat} {vx vy : Value} {hx hy : Own.Heap} (sx : Own.Slc 3 (ints xs) vx hx) (sy : Own.Slc 3 (ints ys) vy hy) {w : World} (hwx : Own.Has w hx) (hwy : Own.Has w hy) (h1 : xs.length ≤ 1000) :
  Calls prog 14 #[vx,vy] w fun e w'=>e = .returned (.bool (decide (xs=ys))) /\ ∃ n,w'=w.drewN n:=by
 have lx:(ints xs).length=xs.length:=List.length_map ..;have ly:(ints ys).length=ys.length:=List.length_map ..;by_cases hl:xs.length=ys.length
 ·rcases Nat.eq_zero_or_pos xs.length with h0 | h0
  ·obtain rfl:xs=[]:=List.eq_nil_of_length_eq_zero h0
   obtain rfl:ys=[]:=List.eq_nil_of_length_eq_zero (by omega);obtain ⟨ax,kx,rfl⟩:=sx.len;obtain ⟨ay,ky,rfl⟩:=sy.len;clear lx ly hl h0 sx sy hwx hwy h1;go_enter func14,ntmps14;go_wp2;refine wp_loop_rounds 1 ?_;rw [rounds_succ];go_wp2;go_ret;exact ⟨rfl,0,rfl⟩
  ·obtain ⟨bx,ox,kx,rfl,fx⟩:=uC sx (by omega)
   obtain ⟨by_,oy,ky,rfl,fy⟩:=uC sy (by omega);rw [lx,ly,<- hl];have Fx:=hhh (fun i (hi:i < xs.length)=>show w.cell? ⟨bx,ox + i,none⟩=some (.int .i64 ((xs[i]'hi:Nat):Int)) by rw [fx _ hwx i (by omega)];simp [ints]);have Fy:=hhh (fun i (hi:i < ys.length)=>show w.cell? ⟨by_,oy + i,none⟩=some (.int .i64 ((ys[i]'hi:Nat):Int)) by rw [fy _ hwy i (by omega)];simp [ints]);have HL:=hhh hl;clear fx fy sx sy hwx hwy lx ly hl h0;go_enter func14,ntmps14;go_wp2;go_loopw [5] (fun i wr=>∃ (j n:Nat),i = .int .i64 j /\ j <= xs.length /\ (∀ k,k < j -> xs[k]? = ys[k]?) /\ wr=w.drewN n) (fun i _=>xs.length - (intOf i).toNat)
   case atStart=>exact ⟨0,0,rfl,by omega,by intro k hk;omega,rfl⟩
   case round =>
    obtain ⟨j,n,rfl,hj,hq,rfl⟩:=hrel;have HQ:=hhh hq;clear hq;by_cases hjl:j < xs.length
    ·have hjy:j < ys.length:=by have:=HL.o;omega
     have cx:=Fx.o j hjl;have cy:=Fy.o j hjy;have hI:(j:Int) < (xs.length:Int):=by omega
     obtain ⟨x,hx'⟩:∃ x,x=xs[j]'hjl:=⟨_,rfl⟩;obtain ⟨y,hy'⟩:∃ y,y=ys[j]'hjy:=⟨_,rfl⟩;rw [<- hx'] at cx;rw [<- hy'] at cy;have HX:=hhh (show xs[j]? = some x by rw [List.getElem?_eq_getElem hjl,hx']);have HY:=hhh (show ys[j]? = some y by rw [List.getElem?_eq_getElem hjy,hy']);clear hx' hy' hjy;by_cases hxy:x=y
     ·have ht:((x:Int) == (y:Int))=true:=by rw [hxy];simp
      have E:=hhh hxy;clear hxy;go_wp2;go_quiet (fail);go_wp2;go_roundw
      case rel =>
       refine ⟨j + 1,_,by go_num,by omega,?_,rfl⟩;intro k hk;rcases Nat.lt_or_ge k j with h2 | h2
       ·exact HQ.o k h2
       ·have h3:k=j:=by omega
        rw [h3,HX.o,HY.o,E.o]
      case measure=>simp [intOf];omega
     ·have ht:((x:Int) == (y:Int))=false:=by rw [bfn];omega
      have E:=hhh hxy;clear hxy;go_wp2;go_quiet (fail);go_wp2;go_ret;refine ⟨Own.dW ?_,n + nq,by rw [World.drewN_drewN]⟩;rw [decide_eq_false];intro e;have h2:=HX.o;rw [e,HY.o] at h2;exact E.o (Option.some.inj h2).symm
    ·have hI:(xs.length:Int) <= (j:Int):=by omega
     have HJ:=hhh (show xs.length <= j by omega);go_wp2;go_ret;refine ⟨Own.dW ?_,_,rfl⟩;rw [decide_eq_true];apply List.ext_getElem?;intro k;rcases Nat.lt_or_ge k j with h2 | h2
     ·exact HQ.o k h2
     ·rw [List.getElem?_eq_none (by have:=HJ.o;omega),List.getElem?_eq_none (by have:=HJ.o;have:=HL.o;omega)]
 ·obtain ⟨ax,kx,rfl⟩:=sx.len
  obtain ⟨ay,ky,rfl⟩:=sy.len;rw [lx,ly];have ht:((xs.length:Int) == (ys.length:Int))=false:=by rw [bfn];omega
  have E:=hhh (show xs ≠ ys by rintro rfl;exact hl rfl);clear lx ly hl sx sy hwx hwy h1;go_enter func14,ntmps14;go_wp2;go_ret;exact ⟨Own.dW (by rw [decide_eq_false E.o]),0,rfl⟩
end Gate
end
section
open Go.RowKit
namespace Gate
open Purse (ints)
theorem fZ (w:World):Calls prog 26 #[] w fun e w'=>e = .returned (.string ⟨#[70]⟩) /\ w'=w:=by
 go_enter func26,ntmps26;go_wp2;go_ret;exact ⟨rfl,rfl⟩
def Ga.cH (g:Ga) (i c:Nat):Ga :=
 { n:=g.n,slots:=g.slots.set i (some Ses.St.new),ids:=g.ids.set i (i + g.n * g.many),many:=g.many + 1,pu:=(g.pu.cO i true).put i 2,turns:=g.turns ++ [i],es:=g.es ++ [(i,c,⟨0,(g.now:Int),(g.now:Int)⟩)],now:=g.now }
theorem zW (ss:List (Option Se)) (i:Nat) (s:Se):(ss.set i (some s)).map Option.isSome=(ss.map Option.isSome).set i true:=by rw [List.map_set];rfl
theorem Ga.Ok.cH {T:Esc.bA} {N:Nat} {g:Ga} (o:g.Ok T N) (i c:Nat) (hi:g.slots[i]? = some none) (hm:g.many <= 800) (hf:g.turns.length <= 400) (h8:g.n <= 8):(g.cH i c).Ok T N where
 pos:=o.pos
 len:=(List.length_set ..).trans o.len
 timed:=by
  intro j u hj hue;show j ∈ (g.es ++ [(i,c,(⟨0,(g.now:Int),(g.now:Int)⟩:Timer.Rec))]).map Prod.fst;rw [List.map_append,List.mem_append];by_cases hij:i=j
  ·subst hij;exact .inr (by simp)
  ·exact .inl (o.timed j u (by rw [show (g.cH i c).slots=g.slots.set i (some Ses.St.new) from rfl,List.getElem?_set_ne hij] at hj;exact hj) hue)
 untimed:=by
  intro j hj;have hl:i < g.slots.length:=(List.getElem?_eq_some_iff.1 hi).1;by_cases hij:i=j
  ·subst hij
   rw [show (g.cH i c).slots=g.slots.set i (some Ses.St.new) from rfl,List.getElem?_set_self hl] at hj;simp at hj
  ·show j ∉ (g.es ++ [(i,c,(⟨0,(g.now:Int),(g.now:Int)⟩:Timer.Rec))]).map Prod.fst
   rw [List.map_append,List.mem_append];have h1:=o.untimed j (by rw [show (g.cH i c).slots=g.slots.set i (some Ses.St.new) from rfl,List.getElem?_set_ne hij] at hj;exact hj);rintro (h2 | h2)
   ·exact h1 h2
   ·simp at h2;exact hij h2.symm
 once:=by
  show ((g.es ++ [(i,c,(⟨0,(g.now:Int),(g.now:Int)⟩:Timer.Rec))]).map Prod.fst).Nodup;rw [List.map_append];refine List.nodup_append.2 ⟨o.once,by simp,fun x hx y hy e=>?_⟩;simp at hy;subst hy;subst e;exact o.untimed _ hi hx
 has:=by
  show g.pu.has.set i 2=(g.slots.set i (some Ses.St.new)).map chargeO;rw [o.has,List.map_set];rfl
 opn:=by
  show g.pu.opn.set i true=(g.slots.set i (some Ses.St.new)).map Option.isSome;rw [zW,o.opn]
 fA:=by
  intro u hu;rcases List.mem_or_eq_of_mem_set hu with h1 | h1
  ·exact o.fA u h1
  ·rw [Option.some.inj h1];exact Ses.Good.new.mono (Nat.zero_le _)
 ids:=by
  intro x hx;rcases List.mem_or_eq_of_mem_set hx with h1 | h1
  ·exact o.ids x h1
  ·have hl:i < g.n:=by rw [<- o.len];exact (List.getElem?_eq_some_iff.1 hi).1
   rw [h1];have:g.n * g.many <= 8 * 800:=Nat.mul_le_mul h8 hm;omega
 turns:=by
  intro j hj;have hl:i < g.slots.length:=(List.getElem?_eq_some_iff.1 hi).1;by_cases hij:i=j
  ·subst hij
   rw [show (g.cH i c).slots=g.slots.set i (some Ses.St.new) from rfl,List.getElem?_set_self hl] at hj;simp at hj
  ·have h1:=o.turns j (by rw [show (g.cH i c).slots=g.slots.set i (some Ses.St.new) from rfl,List.getElem?_set_ne hij] at hj;exact hj)
   show j ∉ g.turns ++ [i];rw [List.mem_append];rintro (h2 | h2)
   ·exact h1 h2
   ·simp at h2;exact hij h2.symm
 turnsOnce:=by
  show (g.turns ++ [i]).Nodup;refine List.nodup_append.2 ⟨o.turnsOnce,by simp,fun x hx y hy e=>?_⟩;simp at hy;subst hy;subst e;exact o.turns _ hi hx
 turnsLive:=by
  intro j u hj;show j ∈ g.turns ++ [i];rw [List.mem_append];by_cases hij:i=j
  ·subst hij;exact .inr (by simp)
  ·exact .inl (o.turnsLive j u (by rw [show (g.cH i c).slots=g.slots.set i (some Ses.St.new) from rfl,List.getElem?_set_ne hij] at hj;exact hj))
 few:=by show (g.turns ++ [i]).length <= 500;rw [lla];simp;omega
 many:=by show g.many + 1 <= 900;omega
 cap:=o.cap
 fresh:=by
  intro e he;have hl:i < g.n:=by rw [<- o.len];exact (List.getElem?_eq_some_iff.1 hi).1
  rcases List.mem_append.1 he with h1 | h1
  ·exact o.fresh e h1
  ·rw [List.mem_singleton.1 h1]
   exact ⟨hl,Timer.fG.new _⟩
 now:=o.now
def Lay.new (l:Lay) (j:Nat) (x:Value) (hs:Own.Heap):Lay:={ l with vs:=l.vs.set j x,hs:=hs }
def Ga.g3 (g:Ga) (j:Nat):Ga:={ g with slots:=g.slots.set j (some Ses.St.new),ids:=g.ids.set j (j + g.n * g.many),many:=g.many + 1 }
def Ga.g4 (g:Ga) (j:Nat):Ga:={ g.g3 j with pu:=g.pu.cO j true }
def Ga.g6 (g:Ga) (j:Nat):Ga:={ (g.g4 j).bZ j 2 with turns:=g.turns ++ [j] }
section
variable {T:Esc.bA} {N:Nat} {l:Lay} {g:Ga} {w:World}
theorem fN (l:Lay) (g:Ga):(l.heap g).Perm (l.hw ++ (l.row g :: l.nA :: l.mW g :: (l.eF g ++ (l.ht ++ l.hs)))):=by
 refine Own.aE _ _ fun x=>?_
 unfold Lay.heap;simp only [List.count_append,List.count_cons];omega
theorem _root_.Go.Proofs.YtcjflgmcjfcodaaGreat.Timer.Map.mono {n m:Nat} {es:Timer.Ents} {v:Value} {h:Own.Heap} (k:Timer.Map n es v h) (hm:n <= m):Timer.Map m es v h:=by
 cases k with
 | none h0=>exact .none h0
 | some b o ho=>exact .some b o (ho.mono hm)
theorem aGv {a h0 h1 h2 : Own.Heap} {u v : World} (t : Own.aA a (h0 ++ l.heap g) u v) (hs : l.hs = h1 ++ h2) (j : Nat) (x : Value) (hj : j < l.vs.length) (S : List (Option Se)) :
  Own.aA a (({ l with vs:=l.vs.set j x,hs:=h1 ++ (h0 ++ h2) }:Lay).heap { g with slots:=S }) u (v.setCell ⟨l.sb,j,none⟩ x):=by
 have p1:(h0 ++ l.heap g).Perm (l.nA :: (l.row g :: l.mW g :: (l.eF g ++ (l.hw ++ (l.ht ++ (h1 ++ (h0 ++ h2))))))):=by
  refine Own.aE _ _ fun x=>?_
  unfold Lay.heap;rw [hs];simp only [List.count_append,List.count_cons];omega
 have t1:=(t.perm (List.Perm.refl _) p1).set j x hj;refine t1.perm (List.Perm.refl _) ?_;exact List.Perm.swap _ _ _
theorem aIy {a : Own.Heap} {u v : World} (t : Own.aA a (l.heap g) u v) (j x : Nat) (y : Int) (hy : y = (x : Int)) (hj : j < g.ids.length) :
  Own.aA a (l.heap { g with ids:=g.ids.set j x }) u (v.setCell ⟨l.ib,j,none⟩ (.int .i64 y)):=by
 subst hy;have t1:=Own.aA.setAt (A:=[_,_]) t j (.int .i64 (x:Int)) (by simpa [ints] using hj);rw [Purse.ints_set] at t1;exact t1
theorem aEw {a : Own.Heap} {u v : World} (t : Own.aA a (l.heap g) u v) (x : Int) (hx : x = (g.many : Int) + 1) :
  Own.aA a (l.heap { g with many:=g.many + 1 }) u (v.setCell ⟨l.gb,2,none⟩ (.int .i64 x)):=by
 subst hx;have t1:=Own.aA.set t 2 (.int .i64 ((g.many:Int) + 1)) (by simp [front]);exact t1
theorem jU (k : l.Good g) (o : g.Ok T N) (h : Own.Has w (l.heap g)) (i : Nat) (hi : g.slots[i]? = some none) (hfirst : ∀ j, j < i → g.slots[j]? ≠ some none) (hm : g.many ≤ 800) (hf : g.turns.length ≤ 400) :
  Calls prog 7 #[.pointer (some ⟨l.gb,0,none⟩)] w fun e w'=>e = .returned (.tuple #[.int .i64 ((i + g.n * g.many:Nat):Int),.string ⟨#[]⟩]) /\
   ∃ l' c,Lay.Good l' (g.cH i c) /\ (g.cH i c).Ok T N /\ l'.gb=l.gb /\ Own.aA (l.heap g) (l'.heap (g.cH i c)) w w':=by
 have c0:=cell h 0 _ rfl;have h8:=k.small;have hil:i < g.n:=by rw [<- k.len];exact (List.getElem?_eq_some_iff.1 hi).1
 have HH:=hhh h;have K:=hhh (ai k (ai o (ai hi (ai hfirst (ai hm hf)))));clear k o hi hfirst hm hf;go_enter func7,ntmps7;go_wp2;go_loopw [13] (fun x wr=>∃ (j:Nat),x = .int .i64 j /\ j <= i /\ wr=w) (fun x _=>i + 1 - (intOf x).toNat)
 case atStart=>exact ⟨0,rfl,by omega,rfl⟩
 case round =>
  obtain ⟨j,rfl,hj,rfl⟩:=hrel;have hjn:j < g.n:=by omega
  have hI:(j:Int) < (g.n:Int):=by omega
  have hjv:j < l.vs.length:=by rw [K.o.1.wJ];exact hjn
  have hjs:j < g.slots.length:=by rw [K.o.1.len];exact hjn
  have cs:=kJ h j _ (List.getElem?_eq_getElem hjv);by_cases hji:j=i
  ·subst hji
   obtain ⟨hv,h1,h2,a1,a2⟩:=K.o.1.slots.mK j K.o.2.2.1;rw [List.getElem?_eq_getElem hjv] at hv;rw [Option.some.inj hv] at cs;have fs:=aHp h j;have A:=hhh (ai a1 a2);have hM:g.n * g.many <= 6400:=Nat.mul_le_mul h8 K.o.2.2.2.2.1;have hMI:(g.n:Int) * (g.many:Int)=((g.n * g.many:Nat):Int):=by rw [Int.natCast_mul]
   have hji:j < g.ids.length:=by rw [K.o.1.ids];exact hjn
   have HG:=hhh (ai hM (ai hMI (ai hji (ai hjv (ai hjn h8)))));clear a1 a2 hv hj h8 hM hMI hji hjv hjn hjs hil;go_wp2;go_region_with (refine (Ses.eO _).mono ?_;rintro e W1 ⟨sk,h0,rfl,is0,ht⟩;have t0:=((Own.aA.refl HH.o).drew).trans (ht.frame HH.o.drew);have hw1:=t0.has.right;have d0:=cell hw1 0 _ rfl;have ds:=kJ hw1 j _ (List.getElem?_eq_getElem HG.o.2.2.2.1);have dfs:=aHp hw1 j;have IS:=hhh is0;have T0:=hhh t0;clear is0 t0 ht hw1)
   all_goals
    have T1:=aGv T0.o A.o.1 j (.pointer (some ⟨sk,0,none⟩)) HG.o.2.2.2.1 (g.slots.set j (some Ses.St.new));have S1:=hhh (A.o.2 Ses.St.new sk h0 IS.o);generalize (World.setCell W1 ⟨l.sb,j,none⟩ (.pointer (some ⟨sk,0,none⟩)))=W2 at T1 |-;clear T0 d0 ds dfs cs fs c0 h IS A;have e0:W2.cell? ⟨l.gb,0,none⟩=some (.slice (some ⟨l.sb,0,none⟩) g.n g.n):=cell T1.has 0 _ rfl;have e1:W2.cell? ⟨l.gb,1,none⟩=some (.slice (some ⟨l.ib,0,none⟩) g.n g.n):=cell T1.has 1 _ rfl;have e2:W2.cell? ⟨l.gb,2,none⟩=some (.int .i64 (g.many:Int)):=cell T1.has 2 _ rfl;have e3:W2.cell? ⟨l.gb,3,none⟩=some (.pointer (some ⟨l.pb,0,none⟩)):=cell T1.has 3 _ rfl;have f2:W2.frozen? ⟨l.gb,2,none⟩=false:=free T1.has 2;have ei:W2.cell? ⟨l.ib,j,none⟩=some (.int .i64 ((g.ids[j]'HG.o.2.2.1:Nat):Int)):=oC T1.has j HG.o.2.2.1;have fi:W2.frozen? ⟨l.ib,j,none⟩=false:=aLw T1.has j;have hne:¬ l.gb=l.ib:=by
     have h9:=(List.nodup_cons.1 T1.has.once).1;intro e;exact h9 (e ▸ mcm _ mcs)
    have hne':¬ l.ib=l.gb:=fun e=>hne e.symm
    have TT1:=hhh T1;clear T1;obtain ⟨M,hM⟩:∃ M,M=g.n * g.many:=⟨_,rfl⟩;have HM:=hhh hM;have hM6:M <= 6400:=by rw [hM];exact HG.o.1
    have hj8:j <= 8:=by have:=HG.o;omega
    have hw1:IntKind.i64.wrap ((g.n:Int) * (g.many:Int))=(M:Int):=by rw [HG.o.2.1,<- hM,IntKind.wrap_i64];omega
    have hw2:IntKind.i64.wrap ((j:Int) + (M:Int))=((j + M:Nat):Int):=by rw [IntKind.wrap_i64];omega
    have hmany:g.many <= 800:=K.o.2.2.2.2.1;clear hM;go_wp2;go_still_tail 18,(by kernel_rfl);go_wp2_with (fail);have T3:=(aEw (aIy TT1.o j (j + M) ((j:Int) + (M:Int)) (by omega) HG.o.2.2.1) ((g.many:Int) + 1) rfl).drew;generalize (World.drew (World.setCell (World.setCell W2 ⟨l.ib,j,none⟩ (.int .i64 ((j:Int) + (M:Int)))) ⟨l.gb,2,none⟩ (.int .i64 ((g.many:Int) + 1))))=W3 at T3 |-;rw [HM.o] at T3;replace T3:Own.aA (l.heap g) ((l.new j (.pointer (some ⟨sk,0,none⟩)) (h1 ++ (h0 ++ h2))).heap (g.g3 j)) wr W3:=T3;clear e0 e1 e2 e3 f2 ei fi hne hne' hw1 hw2 TT1;have hjn:j < g.n:=HG.o.2.2.2.2.1;have ho2:=K.o.2.1.opn;have hop:g.pu.opn[j]'(by rw [<- K.o.1.pu.same,K.o.1.pun];exact hjn)=false:=by
     have h9:g.pu.opn[j]? = some false:=by rw [ho2,List.getElem?_map,K.o.2.2.1];rfl
     rw [List.getElem?_eq_getElem (by rw [<- K.o.1.pu.same,K.o.1.pun];exact hjn)] at h9;exact Option.some.inj h9
    have P4:=Purse.aIe (eF T3.has) K.o.1.pu j _ hop;refine Calls.mono P4 ?_;rintro e W4 ⟨rfl,t4⟩;have T4:=T3.trans (Own.aA.focus T3.has (eS _ _) (fun _=>t4) (eS (l.new j (.pointer (some ⟨sk,0,none⟩)) (h1 ++ (h0 ++ h2))) (g.g4 j)));have G4:(l.new j (.pointer (some ⟨sk,0,none⟩)) (h1 ++ (h0 ++ h2))).Good (g.g4 j) :=
     ⟨(List.length_set ..).trans K.o.1.len,(List.length_set ..).trans K.o.1.ids,K.o.1.pun,K.o.1.pu.cO j true,K.o.1.wheel,K.o.1.timer.mono (by show g.many <= g.many + 1;omega),S1.o⟩
    clear P4 t4 T3 hop ho2 S1;have HC5:=hhh (cK G4 T4.has j Ses.St.new (by show (g.slots.set j (some Ses.St.new))[j]? = _;exact List.getElem?_set_self (by rw [K.o.1.len];exact hjn)) (by show (g.pu.opn.set j true)[j]? = _;exact List.getElem?_set_self (by rw [<- K.o.1.pu.same,K.o.1.pun];exact hjn)) (Ses.Good.new (T:=T)) (by omega) (Nat.zero_le _));have TT4:=hhh T4;clear T4 G4;go_wp2_with (fail);refine HC5.o.mono ?_;rintro e W5 ⟨⟨v5,rfl⟩,G5,t5⟩;have T5:=TT4.o.trans t5;have e4:W5.cell? ⟨l.gb,4,none⟩=some (.pointer (some ⟨l.wb,0,none⟩)):=cell T5.has 4 _ rfl;have HW6:=hhh (Wheel.fX K.o.1.wheel (T5.has.perm (fN _ _)).left (by have:=K.o.2.2.2.2.2;omega) j hjn (K.o.2.1.turns j K.o.2.2.1));have TT5:=hhh T5;have GG5:=hhh G5;clear T5 HC5 t5 G5 TT4;go_wp2_with (fail);refine HW6.o.mono ?_;rintro e W6 ⟨rfl,hw6,wi6,t6⟩;have T6:=TT5.o.trans (Own.aA.focus TT5.o.has (fN _ _) (fun _=>t6) (fN { l.new j (.pointer (some ⟨sk,0,none⟩)) (h1 ++ (h0 ++ h2)) with hw:=hw6 } (g.g6 j)));have HT7:=hhh (Timer.nD (T6.has.perm (bE _ _)).left K.o.1.timer 5 rfl j 0 (by omega) (by omega) (by omega) (fun e he hej=>K.o.2.1.untimed j K.o.2.2.1 (hej ▸ List.mem_map_of_mem he)));have TT6:=hhh T6;have WI6:=hhh wi6;clear HW6 e4 t6 T6 wi6;go_wp2_with (fail);refine HT7.o.mono ?_;rintro e W7 ⟨rfl,mv7,ht7,c7,m7,t7⟩;have T7:=TT6.o.trans (Own.aA.focus TT6.o.has (bE _ _) (fun _=>t7) (bE { l.new j (.pointer (some ⟨sk,0,none⟩)) (h1 ++ (h0 ++ h2)) with hw:=hw6,mv:=mv7,ht:=ht7 } (g.cH j c7)));have G7:({ l.new j (.pointer (some ⟨sk,0,none⟩)) (h1 ++ (h0 ++ h2)) with hw:=hw6,mv:=mv7,ht:=ht7 }:Lay).Good (g.cH j c7) :=
     ⟨GG5.o.len,GG5.o.ids,GG5.o.pun,GG5.o.pu,WI6.o,m7,GG5.o.slots⟩
    have e1:W7.cell? ⟨l.gb,1,none⟩=some (.slice (some ⟨l.ib,0,none⟩) g.n g.n):=cell T7.has 1 _ rfl;have hjI:j < (g.ids.set j (j + g.n * g.many)).length:=by rw [List.length_set];exact HG.o.2.2.1
    have ei:W7.cell? ⟨l.ib,j,none⟩=some (.int .i64 (((g.ids.set j (j + g.n * g.many))[j]'hjI:Nat):Int)):=oC T7.has j hjI;rw [List.getElem_set_self,<- HM.o] at ei;have TT7:=hhh T7;have GG7:=hhh G7;clear T7 G7 m7 t7 HT7;go_wp2;go_ret2;rw [HM.o];exact ⟨rfl,_,c7,GG7.o,K.o.2.1.cH j c7 K.o.2.2.1 K.o.2.2.2.2.1 K.o.2.2.2.2.2 HG.o.2.2.2.2.2,rfl,TT7.o⟩
  ·have hs':∃ s,g.slots[j]? = some (some s):=by
    cases hs:g.slots[j]'hjs with
    | none=>exact absurd (by rw [List.getElem?_eq_getElem hjs,hs]) (K.o.2.2.2.1 j (by omega))
    | some s=>exact ⟨s,by rw [List.getElem?_eq_getElem hjs,hs]⟩
   obtain ⟨s,hs'⟩:=hs';obtain ⟨b,_,_,_,hv,_⟩:=K.o.1.slots.dT j s hs';rw [List.getElem?_eq_getElem hjv] at hv;rw [Option.some.inj hv] at cs;clear hs' hv;go_wp2;go_roundw
   case rel=>exact ⟨j + 1,by go_num,by omega,trivial⟩
   case measure=>simp [intOf];omega
end
end Gate
end
end Go.Proofs.YtcjflgmcjfcodaaGreat
