/- GateTurns: the walk. -/
import Derived.Test.YtjfblahlkjopcaaGreatM37
import Derived.Test.YtjfblahlkjopcaaGreatM41
import Derived.Test.YtjfblahlkjopcaaGreatM44
import Derived.Test.YtjfblahlkjopcaaGreatM45
set_option maxRecDepth 100000
set_option maxHeartbeats 8000000
namespace Go.Proofs.YtjfblahlkjopcaaGreat.gateTurns
open Go.RowKit Gate Gr
open Purse (ints)
theorem feed_some (b:List UInt8) (R:Nat) (hb:64 <= b.length) (hR:64 <= R):Ses.St.new.takes b (R:Int)=64 /\ Ses.St.new.feed b (R:Int)=Ses.fresh (b.take 64):=by
 have h1:Ses.St.new.takes b (R:Int)=64:=by
  show (Ses.fresh []).takes b (R:Int)=_;rw [Ses.fresh_takes,Int.toNat_natCast];simp only [List.length_nil];omega
 refine ⟨h1,?_⟩;show (Ses.fresh []).feed b (R:Int)=_;have h2:(Ses.fresh []).takes b (R:Int)=64:=h1;rw [Ses.fresh_feed,h2,List.nil_append]
def idl (n i:Nat):List Nat:=(List.range i).map fun j=>j + n * j
theorem idl_succ (n i:Nat):idl n (i + 1)=idl n i ++ [i + n * i]:=by simp [idl,List.range_succ]
theorem idl_length (n i:Nat):(idl n i).length=i:=by simp [idl]
theorem runs_congr {text:Json.Part -> List UInt8} {b:List UInt8} {n:Nat} {r s:Nat -> Nat} {g:Ga} (R:Runs text b n r g) (h:∀ j,j < n -> s j=r j):Runs text b n s g :=
 ⟨R.num,fun j hj=>by rw [h j hj];exact R.at_ j hj,R.ids⟩
theorem next_row {text:Json.Part -> List UInt8} {b:List UInt8} {n t:Nat} {g:Ga} (R:Runs text b n (had n t) g) (K:∀ j,j < n -> Ses.Rok text b 64 (had n t j)) (hn:0 < n) (hr:Row n t g.turns) (ht:t < 4 * n):g.next=some (t % n) /\ Row n (t + 1) (g.turns.erase (t % n) ++ [t % n]):=by
 obtain ⟨tl,e,h2⟩:=row_next hr hn;have hd:t / n < 4:=(Nat.div_lt_iff_lt_mul hn).2 ht;have h1:g.readyAt (t % n)=true:=by
  rw [R.ready K _ (Nat.mod_lt t hn),had_self];simp only [decide_eq_true_eq];omega
 refine ⟨?_,?_⟩
 ·unfold Ga.next
  rw [e,List.find?_cons,h1]
 ·rw [e,List.erase_cons_head]
  exact h2
theorem had_end (n j:Nat) (hn:0 < n):had n (4 * n) j=4:=by
 unfold had;rw [Nat.mul_mod_left,if_neg (Nat.not_lt_zero _),Nat.mul_div_cancel _ hn]
theorem had_le (n t j:Nat) (hn:0 < n) (ht:t <= 4 * n):had n t j <= 4:=by
 unfold had;rcases Nat.lt_or_ge t (4 * n) with h | h
 ·have hd:t / n < 4:=(Nat.div_lt_iff_lt_mul hn).2 h
  split <;> omega
 ·obtain rfl:t=4 * n:=by omega
  rw [Nat.mul_mod_left,if_neg (Nat.not_lt_zero _),Nat.mul_div_cancel _ hn];exact Nat.le_refl _
theorem next_end {text:Json.Part -> List UInt8} {b:List UInt8} {n:Nat} {g:Ga} (R:Runs text b n (had n (4 * n)) g) (hl:g.slots.length=g.n) (K:∀ j,j < n -> Ses.Rok text b 64 (had n (4 * n) j)) (hn:0 < n):g.next=none:=by
 refine List.find?_eq_none.2 fun x _=>?_
 by_cases hx:x < n
 ·rw [R.ready K x hx,had_end n x hn]
  decide
 ·unfold Ga.readyAt
  rw [List.getElem?_eq_none (by rw [hl,R.num];omega)];decide
theorem row_start (n:Nat):Row n 0 (List.range n):=by
 refine ⟨List.length_range,fun j hj=>?_⟩;rw [Nat.zero_add,Nat.mod_eq_of_lt hj,List.getElem?_range hj]
theorem rem_nat (a l:Nat):((a:Int)).tmod (l:Int)=((a % l:Nat):Int):=by
 rw [Int.tmod_eq_emod_of_nonneg (by omega),Int.natCast_emod]
theorem walk (T : Esc.Tabs) (a0 a1 : Int) (_w0 : (Lit.int .i64 a0).wf = true) (_w1 : (Lit.int .i64 a1).wf = true) (w : World) (hT : Esc.TabsAt T w) :
  Calls Tryz.prog 3 #[.int .i64 a0,.int .i64 a1] w fun e w'=>e = .returned (.bool true) /\ Below w.heap.size w w':=by
 have HA:=hhh (alive_any T w);have BT:=hhh (fun (u v:World) (b:Below w.heap.size w u) (b2:Below u.heap.size u v)=>(b.trans (b2.mono b.size):Below w.heap.size w v));have HTb:=hhh (fun (u:World) (h:Below w.heap.size w u)=>(hT.of (h.mono hT.size):Esc.TabsAt T u));clear _w0 _w1 hT;rcases (show a0 < 1 \/ 8 < a0 \/ (1 <= a0 /\ a0 <= 8 /\ a1 < 0) \/ (1 <= a0 /\ a0 <= 8 /\ 0 <= a1 /\ 60 < a1) \/ (1 <= a0 /\ a0 <= 8 /\ 0 <= a1 /\ a1 <= 60) by omega) with h1 | h1 | ⟨h1,h2,h3⟩ | ⟨h1,h2,h3,h4⟩ | ⟨h1,h2,h3,h4⟩
 case inr.inr.inr.inr =>
  obtain ⟨n,rfl⟩:∃ n:Nat,a0=(n:Int):=⟨a0.toNat,by omega⟩;obtain ⟨m,rfl⟩:∃ n:Nat,a1=(n:Int):=⟨a1.toNat,by omega⟩;have hn0:0 < n:=by omega
  have HN:=hhh (fun W=>new_any 40000 n (by omega) (by omega) (by omega) (by omega) W);have O0:=hhh (Ga.Ok.new T 0 (by omega) 40000 n (by omega));have HP:=hhh (fun u=>Pip.hput_any Ses.tset (by decide) u);obtain ⟨PB,hPB⟩:∃ PB:ByteArray,PB=⟨(Pip.helloBytes Ses.tset).toArray⟩:=⟨_,rfl⟩;rw [<- hPB] at HP;unfold Pip.Setup.val Ses.tset at HP;simp only at HP;obtain ⟨E,hE⟩:∃ E:ByteArray,PB ++ ⟨#[32,32,32,32,32,32,32,32,32,32,32,32,91,32,32,32,32,32,32,32,32,32,32,32,32,32,32,32,32,32,32,32,32,32,32,32,32,32,32,32,32,32,32,32,32,32,32,32,32,32,32,32,32,32,32,32,32,32]⟩=E:=⟨_,rfl⟩;have hPBs:PB.size=8:=by rw [hPB];rfl
  have HE:=hhh (show E.size=66 /\ E.data.toList.take 64=Ses.opens /\ 64 <= E.data.toList.length by rw [<- hE,hPB];exact ⟨by decide,by decide,by decide⟩);obtain ⟨i0,hi,hz0,hz1,hz2⟩:=info_parts (P:=Tryz.prog) (e:=3) (z:=.int .i64 0) (size:=1) (bytes:=8) (by kernel_rfl);have Hi:=hhh (And.intro hi (And.intro hz0 (And.intro hz1 hz2)));clear hPB hi hz0 hz1 hz2;go_enter Tryz.func3,Tryz.ntmps3;go_wp2_with (fail);refine HA.o.mono ?_;rintro e W1 ⟨rfl,b1⟩;have B1:=hhh b1;clear b1;have bot:=fun {h:Own.Heap} {u:World} (t:Own.Turn [] h W1 u)=>BT.o _ _ B1.o (t.below (B:=W1.heap.size) (fun x hx=>by cases hx) (Nat.le_refl _))
  have Bot:=@hhh _ @bot;have hbl:=fun {h:Own.Heap} {u:World} (t:Own.Turn [] h W1 u)=>t.least (B:=Esc.tabsEnd) (fun x hx=>by cases hx) (HTb.o _ B1.o).size
  have Hbl:=@hhh _ @hbl;clear bot hbl;go_wp2_with (fail);refine (HN.o _).mono ?_;rintro e W2 ⟨l0,rfl,k0,t0⟩;have Z0:=hhh (And.intro k0 t0);clear k0 t0;go_wp2_with (fail);refine (HP.o _).mono ?_;rintro e W4 ⟨rfl,b4⟩;have Z4:=hhh (Z0.o.2.trans (Own.Turn.of_below Z0.o.2.has b4));clear b4;go_wp2;go_loopw [8,9] (fun q x wr=>∃ (i q1:Nat) (ad:Option Addr) (c:Nat) (ho:Own.Heap) (l:Lay) (g:Ga),q = .slice ad q1 c /\ x = .int .i64 i /\ i <= n /\ q1=i /\ Own.Slc 3 (ints (idl n i)) (.slice ad q1 c) ho /\ l.Good g /\ g.Ok T 0 /\ Fed n (Ses.fresh Ses.opens) i g /\ l.gb=l0.gb /\ Own.Turn [] (ho ++ l.heap g) W1 wr) (fun _ x _=>n - (intOf x).toNat)
  case atStart=>exact ⟨0,0,none,0,[],l0,_,rfl,rfl,by omega,rfl,Own.Slc.bare none rfl,Z0.o.1,O0.o,Fed.new n _,rfl,Z4.o⟩
  case round =>
   obtain ⟨i,q1,ad,c,ho,l,g,rfl,rfl,hi,hq,hs,k,o,f,hg,tt⟩:=hrel;subst hq;have hi8:(q1:Int) <= 8:=by omega
   have K:=hhh (And.intro k (And.intro o (And.intro f (And.intro hg (And.intro tt hs)))));by_cases hin:q1 < n
   ·have hinI:(q1:Int) < (n:Int):=by omega
    have hfst:=f.first hin
    have HC:=connect_any k o tt.has.right q1 hfst.1 hfst.2 (by rw [f.many];omega) (by rw [f.turns,List.length_range];omega);rw [hg,f.num,f.many] at HC;obtain ⟨ID,hID⟩:∃ ID,ID=q1 + n * q1:=⟨_,rfl⟩;rw [<- hID] at HC;have HC:=hhh HC;have HID:=hhh hID;have hlen:=hhh (show (ints (idl n q1)).length=q1 by rw [show (ints (idl n q1)).length=(idl n q1).length from List.length_map ..,idl_length]);clear k o f hg tt hfst hID hs;go_wp2_with (fail);refine HC.o.mono ?_;rintro e W5 ⟨rfl,l1,c1,k1,o1,e1,t1⟩;have T5:=hhh (K.o.2.2.2.2.1.trans (Own.Turn.behind (r:=ho) t1 K.o.2.2.2.2.1.has));have hfd:=K.o.2.2.1.find (c:=c1) hin K.o.1.len K.o.1.ids;have hfa:=feed_some E.data.toList (700 - Ses.St.new.charge + (g.begin_ q1 c1).pu.left) HE.o.2.2 (by have:Ses.St.new.charge=2:=rfl;omega);have HCh:=fun W hW=>chunk_any (w:=W) k1 o1 hW ((q1 + n * q1:Nat):Int) E (by have:=HE.o.1;omega) q1 hfd.1 Ses.St.new hfd.2
    rw [hfa.1,hfa.2,HE.o.2.1,e1,<- HID.o] at HCh;have HCh:=hhh HCh;clear k1 o1 e1 t1 hfd hfa HC;go_wp2_with (at_builtin;go_loud (refine Own.wpList_append_one rfl _ _ 29 rfl 3 i0 (.int .i64 0) 8 Tryz.underlying29 Hi.o.1 Hi.o.2.1 Hi.o.2.2.1 Hi.o.2.2.2 rfl (.slice ad q1 c) (ints (idl n q1)) q1 hlen.o ho (l1.heap (g.begin_ q1 c1)) rfl K.o.2.2.2.2.2 T5.o.has (.int .i64 (ID:Int)) rfl rfl ?c1 ?c2 ?_))
    case c1=>simp only [maxLen];omega
    case c2=>omega
    intro ad' c' h' w1 hs' ht';have S6:=hhh hs';have T6:=hhh (T5.o.trans ht');clear hs' ht';go_wp2_with (fail);refine (HCh.o _ T6.o.has.right).mono ?_;rintro e W7 ⟨rfl,l2,g2,k2,o2,hs2,like2,e2,t2⟩;have H7:=hhh (And.intro k2 (And.intro o2 (And.intro (K.o.2.2.1.step hin K.o.1.len K.o.1.ids hs2 like2) (And.intro e2 (T6.o.trans (Own.Turn.behind (r:=h') t2 T6.o.has))))));clear k2 o2 hs2 like2 e2 t2 HCh;go_wp2;go_roundw
    case rel =>
     refine ⟨q1 + 1,q1 + 1,ad',c',h',l2,g2,rfl,by congr 1,by omega,rfl,?_,H7.o.1,H7.o.2.1,H7.o.2.2.1,H7.o.2.2.2.1,H7.o.2.2.2.2⟩;rw [idl_succ,<- HID.o,show ints (idl n q1 ++ [ID])=ints (idl n q1) ++ [.int .i64 (ID:Int)] by simp [ints]];exact S6.o
    case measure=>simp [intOf];omega
   ·obtain rfl:q1=n:=by omega
    have HR0:=hhh (runs_congr (s:=had q1 0) (K.o.2.2.1.runs (Pip.textT T)) (fun j hj=>by unfold had;simp));have HT0:=hhh (show Row q1 0 g.turns by rw [K.o.2.2.1.turns];exact row_start q1);obtain ⟨b,o9,c9,e9,hc9⟩:=Wheel.cells_of hs (by rw [show (ints (idl q1 q1)).length=(idl q1 q1).length from List.length_map ..,idl_length];exact hn0);injection e9 with e91 e92 e93
    subst e91
    have HCe:=hhh (fun (W:World) (hW:Own.Has W ho) (y:Nat) (hy:y < q1)=>(show W.cell? ⟨b,o9 + y,none⟩=some (.int .i64 ((y + q1 * y:Nat):Int)) by
     rw [hc9 W hW y (by rw [show (ints (idl q1 q1)).length=(idl q1 q1).length from List.length_map ..,idl_length];exact hy)]
     simp [ints,idl]))
    clear k o f hg tt hs hc9 e92 e93;go_wp2;go_loopw [12] (fun x wr=>∃ (t:Nat) (l:Lay) (g:Ga),x = .int .i64 t /\ t <= m /\ t <= 4 * q1 /\ l.Good g /\ g.Ok T (16 * t) /\ Runs (Pip.textT T) Ses.opens q1 (had q1 t) g /\ Row q1 t g.turns /\ l.gb=l0.gb /\ Own.Turn [] (ho ++ l.heap g) W1 wr) (fun x _=>m - (intOf x).toNat)
    case atStart=>exact ⟨0,l,g,rfl,by omega,by omega,K.o.1,K.o.2.1,HR0.o,HT0.o,K.o.2.2.2.1,K.o.2.2.2.2.1⟩
    case round =>
     obtain ⟨t,l3,g3,rfl,htm,ht4,k3,o3,R3,r3,hg3,tt3⟩:=hrel;have htI:(t:Int) <= 60:=by omega
     have HRok:=hhh (fun j (hj:j < q1)=>Ses.tok_at (Pip.textT T) (had q1 t j) (by have:=had_le q1 t j hn0 ht4;omega));have K3:=hhh (And.intro k3 (And.intro o3 (And.intro R3 (And.intro r3 (And.intro hg3 tt3)))));by_cases htm2:t < m
     ·have htmI:(t:Int) < (m:Int):=by omega
      by_cases ht42:t < 4 * q1
      ·obtain ⟨hnx,hrow⟩:=next_row R3 HRok.o hn0 r3 ht42
       obtain ⟨y,hy⟩:∃ y,y=t % q1:=⟨_,rfl⟩;have hdiv:t / q1 < 4:=(Nat.div_lt_iff_lt_mul hn0).2 ht42;have hself:had q1 t y=t / q1:=by rw [hy];exact had_self q1 t
       have hstep:∀ j,j < q1 -> had q1 (t + 1) j=upd (had q1 t) y (had q1 t y + 1) j:=fun j hj=>by rw [hself,hy];exact had_step q1 t hn0 j hj
       have hrem:((t:Int)).tmod (q1:Int)=(y:Int):=by rw [hy];exact rem_nat t q1
       have hrem2:(t:Int) % (q1:Int)=(y:Int):=by rw [hy,Int.natCast_emod]
       rw [<- hy] at hnx hrow;obtain ⟨hyl,hym,hsy,hrun⟩:=R3.turn k3.len HRok.o y hnx;have HRn:=run_turn k3 o3 (by omega) tt3.has.right (fun x hx=>Hbl.o tt3 x (by rw [Own.blocks,List.map_append,List.mem_append];exact .inr hx)) (HTb.o _ (Bot.o tt3)) y hnx _ hsy (rst_told _ _ _);have hids:g3.ids.getD y 0=y + q1 * y:=by rw [List.getD_eq_getElem?_getD,R3.ids y hyl];rfl
       rw [hrun,hg3,show ((Ses.rst (Pip.textT T) Ses.opens (had q1 t y + 1),min 16 (64 - 16 * had q1 t y)):Ses.St × Nat).2=16 by show min 16 (64 - 16 * had q1 t y)=16;rw [hself];omega,show ((Ses.rst (Pip.textT T) Ses.opens (had q1 t y + 1),min 16 (64 - 16 * had q1 t y)):Ses.St × Nat).1=Ses.rst (Pip.textT T) Ses.opens (had q1 t y + 1) from rfl,hids] at HRn;obtain ⟨ID,hID⟩:∃ ID,ID=y + q1 * y:=⟨_,rfl⟩;rw [<- hID] at HRn;have HID:=hhh hID;have HRn:=hhh HRn;have HY:=hhh (And.intro hyl (And.intro hrow hstep));have hyI:(y:Int) < (q1:Int):=by omega
       clear k3 o3 R3 r3 hg3 tt3 hnx hrow hy hdiv hself hstep hym hsy hrun hids hID;go_wp2_with (fail);refine HRn.o.mono ?_;rintro e W7 ⟨rfl,l7,g7,k7,o7,hs7,hn7,hid7,hmany7,hrest7,hnow7,htu7,hg7,t7⟩;have hR7:=runs_congr (K3.o.2.2.1.on K3.o.1.len g7 y HY.o.1 hs7 hn7 hid7) HY.o.2.2;have hT7:=K3.o.2.2.2.2.2.trans (Own.Turn.behind (r:=ho) t7 K3.o.2.2.2.2.2.has);have hcy:=HCe.o W7 hT7.has.left y HY.o.1;rw [<- HID.o] at hcy;have H7:=hhh (And.intro k7 (And.intro o7 (And.intro hR7 (And.intro (show Row q1 (t + 1) g7.turns by rw [htu7];exact HY.o.2.1) (And.intro hg7 hT7)))));clear k7 o7 hs7 hn7 hid7 hmany7 hrest7 hnow7 htu7 hg7 t7 hR7 hT7 HRn;go_wp2;go_roundw
       case rel=>exact ⟨t + 1,l7,g7,by congr 1,by omega,by omega,H7.o.1,by rw [show 16 * (t + 1)=16 * t + 16 by omega];exact H7.o.2.1,H7.o.2.2.1,H7.o.2.2.2.1,H7.o.2.2.2.2.1,H7.o.2.2.2.2.2⟩
       case measure=>simp [intOf];omega
      ·obtain rfl:t=4 * q1:=by omega
       have hnx:=next_end R3 k3.len HRok.o hn0;have HI:=run_idle k3 o3 tt3.has.right hnx;rw [hg3] at HI;have HI:=hhh HI;have h4q:((4 * q1:Nat):Int)=4 * (q1:Int):=by omega
       clear k3 o3 R3 r3 hg3 tt3 hnx ht42;go_wp2_with (fail);refine HI.o.mono ?_;rintro e W7 ⟨rfl,t7⟩;have T7:=hhh (K3.o.2.2.2.2.2.trans (Own.Turn.behind (r:=ho) t7 K3.o.2.2.2.2.2.has));clear t7;go_wp2;go_ret;exact ⟨rfl,Bot.o T7.o⟩
     ·have htmI:(m:Int) <= (t:Int):=by omega
      clear k3 o3 R3 r3 hg3 tt3;go_wp2;go_ret;exact ⟨rfl,Bot.o K3.o.2.2.2.2.2⟩
 all_goals
  go_enter Tryz.func3,Tryz.ntmps3;go_wp2_with (fail);refine HA.o.mono ?_;rintro e W1 ⟨rfl,b1⟩;have B1:=hhh b1;clear b1;go_wp2;go_ret;exact ⟨rfl,B1.o⟩
end Go.Proofs.YtjfblahlkjopcaaGreat.gateTurns
