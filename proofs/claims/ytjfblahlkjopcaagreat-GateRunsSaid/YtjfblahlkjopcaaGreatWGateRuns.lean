/- GateRuns: the walk. -/
import Derived.Test.YtjfblahlkjopcaaGreatM37
import Derived.Test.YtjfblahlkjopcaaGreatM41
import Derived.Test.YtjfblahlkjopcaaGreatM44
import Derived.Test.YtjfblahlkjopcaaGreatM45
set_option maxRecDepth 100000
set_option maxHeartbeats 8000000
namespace Go.Proofs.YtjfblahlkjopcaaGreat.gateRuns
open Go.RowKit Gate Gr
theorem blank_cat (L:Nat) (h8:8 <= L) (h:L < 64):((⟨(Ses.blanks.take L).toArray⟩:ByteArray) ++ ⟨#[32]⟩)=⟨(Ses.blanks.take (L + 1)).toArray⟩:=by
 have hl:Ses.blanks.length=64:=by decide
 have h1:Ses.blanks.take (L + 1)=Ses.blanks.take L ++ [32]:=by
  rw [List.take_succ_eq_append_getElem (by omega)];have h2:Ses.blanks[L]'(by omega)=32:=by
   unfold Ses.blanks;rw [List.getElem_append_right (by show 8 <= L;exact h8)];exact List.getElem_replicate ..
  rw [h2]
 rw [h1];apply ByteArray.ext;simp
theorem blank_cut (L m:Nat) (h:m <= L):(⟨(Ses.blanks.take L).toArray⟩:ByteArray).extract 0 m=⟨(Ses.blanks.take m).toArray⟩:=by
 apply ByteArray.ext;apply Array.toList_inj.1;simp only [ByteArray.data_extract,Array.toList_extract,List.extract_eq_take_drop,List.drop_zero,Nat.sub_zero];rw [List.take_take,Nat.min_eq_left h]
theorem blank_size (L:Nat) (h:L <= 64):(⟨(Ses.blanks.take L).toArray⟩:ByteArray).size=L:=by
 show (Ses.blanks.take L).length=L;rw [List.length_take,show Ses.blanks.length=64 by decide];omega
theorem walk (T : Esc.Tabs) (a0 a1 : Int) (_w0 : (Lit.int .i64 a0).wf = true) (_w1 : (Lit.int .i64 a1).wf = true) (w : World) (hT : Esc.TabsAt T w) :
  Calls Tryz.prog 4 #[.int .i64 a0,.int .i64 a1] w fun e w'=>e = .returned (.bool true) /\ Below w.heap.size w w':=by
 have HA:=hhh (alive_any T w);have BT:=hhh (fun (u v:World) (b:Below w.heap.size w u) (b2:Below u.heap.size u v)=>(b.trans (b2.mono b.size):Below w.heap.size w v));have HTb:=hhh (fun (u:World) (h:Below w.heap.size w u)=>(hT.of (h.mono hT.size):Esc.TabsAt T u));clear _w0 _w1 hT;rcases (show a0 < 1 \/ 4 < a0 \/ (1 <= a0 /\ a0 <= 4 /\ a1 < 0) \/ (1 <= a0 /\ a0 <= 4 /\ 0 <= a1 /\ 64 < a1) \/ (1 <= a0 /\ a0 <= 4 /\ 0 <= a1 /\ a1 <= 64) by omega) with h1 | h1 | ⟨h1,h2,h3⟩ | ⟨h1,h2,h3,h4⟩ | ⟨h1,h2,h3,h4⟩
 case inr.inr.inr.inr =>
  obtain ⟨n,rfl⟩:∃ n:Nat,a0=(n:Int):=⟨a0.toNat,by omega⟩;obtain ⟨m,rfl⟩:∃ n:Nat,a1=(n:Int):=⟨a1.toNat,by omega⟩;have HN:=hhh (fun W=>new_any 40000 n (by omega) (by omega) (by omega) (by omega) W);have O0:=hhh (Ga.Ok.new T 0 (by omega) 40000 n (by omega));have HP:=hhh (fun u=>Pip.hput_any Ses.rset (by decide) u);obtain ⟨PB,hPB⟩:∃ PB:ByteArray,PB=⟨(Pip.helloBytes Ses.rset).toArray⟩:=⟨_,rfl⟩;rw [<- hPB] at HP;unfold Pip.Setup.val Ses.rset at HP;simp only at HP;have HPB:=hhh (show PB=⟨(Ses.blanks.take 8).toArray⟩ by rw [hPB];rfl);clear hPB;go_enter Tryz.func4,Tryz.ntmps4;go_wp2_with (fail);refine HA.o.mono ?_;rintro e W1 ⟨rfl,b1⟩;have B1:=hhh b1;clear b1;have bot:=fun {h:Own.Heap} {u:World} (t:Own.Turn [] h W1 u)=>BT.o _ _ B1.o (t.below (B:=W1.heap.size) (fun x hx=>by cases hx) (Nat.le_refl _))
  have Bot:=@hhh _ @bot;have hbl:=fun {h:Own.Heap} {u:World} (t:Own.Turn [] h W1 u)=>t.least (B:=Esc.tabsEnd) (fun x hx=>by cases hx) (HTb.o _ B1.o).size
  have Hbl:=@hhh _ @hbl;clear bot hbl;go_wp2_with (fail);refine (HN.o _).mono ?_;rintro e W2 ⟨l0,rfl,k0,t0⟩;have Z0:=hhh (And.intro k0 t0);clear k0 t0;go_wp2_with (fail);refine (run_idle Z0.o.1 O0.o Z0.o.2.has rfl).mono ?_;rintro e W3 ⟨rfl,t3⟩;have Z3:=hhh (Z0.o.2.trans t3);clear t3;go_wp2_with (fail);refine (HP.o _).mono ?_;rintro e W4 ⟨rfl,b4⟩;have Z4:=hhh (Z3.o.trans (Own.Turn.of_below Z3.o.has b4));clear b4;go_wp2;go_loopw [10] (fun q wr=>∃ L:Nat,q = .string ⟨(Ses.blanks.take L).toArray⟩ /\ 8 <= L /\ L <= 64 /\ wr=W4) (fun q _=>match q with | .string s=>64 - s.size | _=>0)
  case atStart=>exact ⟨8,by rw [HPB.o],by omega,by omega,rfl⟩
  case round =>
   obtain ⟨L,rfl,h8,h64,rfl⟩:=hrel;have hsz:=blank_size L h64;by_cases hLm:L < m
   ·have hc:=blank_cat L h8 (by omega)
    have HS2:=hhh (blank_size (L + 1) (by omega));obtain ⟨D,hD⟩:∃ D:ByteArray,D=⟨(Ses.blanks.take L).toArray⟩:=⟨_,rfl⟩;rw [<- hD] at hc hsz |-;have HC:=hhh hc;have hLI:(L:Int) < (m:Int):=by omega
    clear hc hD;go_wp2;go_roundw
    case rel=>exact ⟨L + 1,by rw [HC.o],by omega,by omega,trivial⟩
    case measure=>rw [HC.o];simp only [HS2.o,hsz];omega
   ·have hc:=blank_cut L m (by omega)
    obtain ⟨D,hD⟩:∃ D:ByteArray,D=⟨(Ses.blanks.take L).toArray⟩:=⟨_,rfl⟩;rw [<- hD] at hc hsz |-;obtain ⟨E,hE⟩:∃ E:ByteArray,E=⟨(Ses.blanks.take m).toArray⟩:=⟨_,rfl⟩;rw [<- hE] at hc;have hEs:E.size=m:=by rw [hE];exact blank_size m (by omega)
    have HEl:=hhh (show E.data.toList=Ses.blanks.take m by rw [hE]);have hLI:(m:Int) <= (L:Int):=by omega
    clear hD hE;go_wp2;go_loopw [11] (fun x wr=>∃ (i:Nat) (l:Lay) (g:Ga),x = .int .i64 i /\ i <= n /\ l.Good g /\ g.Ok T 0 /\ Fed n (Ses.fresh (Ses.blanks.take m)) i g /\ l.gb=l0.gb /\ Own.Turn [] (l.heap g) W1 wr) (fun x _=>n - (intOf x).toNat)
    case atStart=>exact ⟨0,l0,_,rfl,by omega,Z0.o.1,O0.o,Fed.new n _,rfl,Z4.o⟩
    case round =>
     obtain ⟨i,l,g,rfl,hi,k,o,f,hg,tt⟩:=hrel;have hi4:(i:Int) <= 4:=by omega
     have K:=hhh (And.intro k (And.intro o (And.intro f (And.intro hg tt))));by_cases hin:i < n
     ·have hinI:(i:Int) < (n:Int):=by omega
      have hfst:=f.first hin
      have HC:=connect_any k o tt.has i hfst.1 hfst.2 (by rw [f.many];omega) (by rw [f.turns,List.length_range];omega);rw [hg,f.num,f.many] at HC;have HC:=hhh HC;obtain ⟨ID,hID⟩:∃ ID,ID=i + n * i:=⟨_,rfl⟩;rw [<- hID] at HC;have HID:=hhh hID;clear k o f hg tt hfst hID;go_wp2_with (fail);refine HC.o.mono ?_;rintro e W5 ⟨rfl,l1,c1,k1,o1,e1,t1⟩;have T5:=K.o.2.2.2.2.trans t1;have hfd:=K.o.2.2.1.find (c:=c1) hin K.o.1.len K.o.1.ids;have hfa:=feed_all (Ses.blanks.take m) (700 - Ses.St.new.charge + (g.begin_ i c1).pu.left) (by rw [List.length_take];omega) (by have:Ses.St.new.charge=2:=rfl;omega);have HCh:=chunk_any k1 o1 T5.has ((i + n * i:Nat):Int) E (by omega) i hfd.1 Ses.St.new hfd.2;rw [HEl.o,hfa.1,hfa.2,e1,<- HID.o] at HCh;have HCh:=hhh HCh;have H5:=hhh (And.intro e1 T5);clear k1 o1 e1 t1 T5 hfd hfa HC;go_wp2_with (fail);refine HCh.o.mono ?_;rintro e W6 ⟨rfl,l2,g2,k2,o2,hs2,like2,e2,t2⟩;have H6:=hhh (And.intro k2 (And.intro o2 (And.intro (K.o.2.2.1.step hin K.o.1.len K.o.1.ids hs2 like2) (And.intro e2 (H5.o.2.trans t2)))));clear k2 o2 hs2 like2 e2 t2 HCh;go_wp2;go_roundw
      case rel=>exact ⟨i + 1,l2,g2,by congr 1,by omega,H6.o.1,H6.o.2.1,H6.o.2.2.1,H6.o.2.2.2.1,H6.o.2.2.2.2⟩
      case measure=>simp [intOf];omega
     ·obtain rfl:i=n:=by omega
      have HR0:=hhh (K.o.2.2.1.runs (Pip.textT T));clear k o f hg tt;go_wp2;go_loopw [14,15] (fun sm x wr=>∃ (t:Nat) (r:Nat -> Nat) (l:Lay) (g:Ga),x = .int .i64 t /\ sm = .int .i64 ((tot (fun y=>min m (16 * y)) r i:Nat):Int) /\ t=tot (fun y=>y) r i /\ (∀ j,j < i -> r j <= 4) /\ l.Good g /\ g.Ok T (16 * t) /\ Runs (Pip.textT T) (Ses.blanks.take m) i r g /\ l.gb=l0.gb /\ Own.Turn [] (l.heap g) W1 wr) (fun _ x _=>100 - (intOf x).toNat)
      case atStart=>exact ⟨0,fun _=>0,l,g,rfl,by rw [tot_same _ _ 0 i (fun _ _=>by simp)];simp,by rw [tot_same _ _ 0 i (fun _ _=>rfl)];simp,(fun _ _=>Nat.zero_le _),K.o.1,K.o.2.1,HR0.o,K.o.2.2.2.1,K.o.2.2.2.2⟩
      case round =>
       obtain ⟨t,r,l3,g3,rfl,rfl,ht,hr4,k3,o3,R3,hg3,tt3⟩:=hrel;have ht16:t <= 16:=by have:=tot_le (fun y=>y) r 4 i hr4;omega
       have htI:(t:Int) <= 16:=by omega
       have HRok:=hhh (fun j (hj:j < i)=>Ses.rok_at (Pip.textT T) m (r j) (by omega) (by have:=hr4 j hj;omega));obtain ⟨S,hS⟩:∃ S,S=tot (fun y=>min m (16 * y)) r i:=⟨_,rfl⟩;have hSle:S <= i * m:=by rw [hS];exact tot_le _ r m i (fun j _=>Nat.min_le_left ..)
       have him:i * m <= 4 * 64:=Nat.mul_le_mul (by omega) (by omega);have hSI:(S:Int) <= 256:=by omega
       rw [<- hS];have K3:=hhh (And.intro k3 (And.intro o3 (And.intro R3 (And.intro hg3 (And.intro tt3 (And.intro hS (And.intro ht hr4)))))))
       cases hn:g3.next with
       | none =>
        have HI:=run_idle k3 o3 tt3.has hn;rw [hg3] at HI;have HI:=hhh HI;have hSm:S=i * m:=by
         rw [hS];refine tot_same _ r m i (fun j hj=>?_);have:=R3.idle o3 HRok.o hn j hj;exact Nat.min_eq_left this
        obtain ⟨P,hP⟩:∃ P,P=i * m:=⟨_,rfl⟩;rw [<- hP] at hSm him;subst hSm;have hmul:(i:Int) * (m:Int)=(S:Int):=by rw [hP];push_cast;rfl
        have hwr:IntKind.i64.wrap (S:Int)=(S:Int):=by rw [IntKind.wrap_i64];omega
        clear k3 o3 R3 hg3 tt3 hS ht hr4 hSle hP hn;go_wp2_with (fail);refine HI.o.mono ?_;rintro e W7 ⟨rfl,t7⟩;have T7:=hhh (K3.o.2.2.2.2.1.trans t7);clear t7;go_wp2;go_ret;exact ⟨rfl,Bot.o T7.o⟩
       | some y =>
        obtain ⟨hy,hym,hsy,hrun⟩:=R3.turn k3.len HRok.o y hn;have HRn:=run_turn k3 o3 (by omega) tt3.has (Hbl.o tt3) (HTb.o _ (Bot.o tt3)) y hn _ hsy (rst_told _ _ _);rw [hrun,hg3] at HRn;obtain ⟨KK,hKK⟩:∃ KK,KK=min 16 (m - 16 * r y):=⟨_,rfl⟩;rw [show ((Ses.rst (Pip.textT T) (Ses.blanks.take m) (r y + 1),min 16 (m - 16 * r y)):Ses.St × Nat).2=KK from hKK.symm,show ((Ses.rst (Pip.textT T) (Ses.blanks.take m) (r y + 1),min 16 (m - 16 * r y)):Ses.St × Nat).1=Ses.rst (Pip.textT T) (Ses.blanks.take m) (r y + 1) from rfl] at HRn;have HRn:=hhh HRn;have hK1:1 <= KK:=by omega
        have hK16:(KK:Int) <= 16:=by omega
        have HY:=hhh (And.intro hy (And.intro hym hKK));clear k3 o3 R3 hg3 tt3 hS ht hr4 hSle hn hy hym hsy hrun hKK;go_wp2_with (fail);refine HRn.o.mono ?_;rintro e W7 ⟨rfl,l7,g7,k7,o7,hs7,hn7,hid7,hmany7,hrest7,hnow7,htu7,hg7,t7⟩;have hR7:=K3.o.2.2.1.on K3.o.1.len g7 y HY.o.1 hs7 hn7 hid7;have H7:=hhh (And.intro k7 (And.intro o7 (And.intro hR7 (And.intro hg7 (K3.o.2.2.2.2.1.trans t7)))));clear k7 o7 hs7 hn7 hid7 hmany7 hrest7 hnow7 htu7 hg7 t7 hR7 HRn;go_wp2;go_roundw
        case rel =>
         have e1:=tot_upd (fun y=>min m (16 * y)) r y (r y + 1) i HY.o.1;have e2:=tot_upd (fun y=>y) r y (r y + 1) i HY.o.1;have e3:=K3.o.2.2.2.2.2.1;have e4:=K3.o.2.2.2.2.2.2.1;have e5:=HY.o.2.2;have e1:tot (fun y=>min m (16 * y)) (upd r y (r y + 1)) i + min m (16 * r y)=tot (fun y=>min m (16 * y)) r i + min m (16 * (r y + 1)):=e1;have e2:tot (fun y=>y) (upd r y (r y + 1)) i + r y=tot (fun y=>y) r i + (r y + 1):=e2;refine ⟨t + 1,upd r y (r y + 1),l7,g7,by congr 1,?_,by omega,fun j hj=>?_,H7.o.1,by rw [show 16 * (t + 1)=16 * t + 16 by omega];exact H7.o.2.1,H7.o.2.2.1,H7.o.2.2.2.1,H7.o.2.2.2.2⟩
         ·congr 1
          omega
         ·by_cases hjy:j=y
          ·subst hjy;rw [upd_self];have:=HY.o.2.1;omega
          ·rw [upd_other r y _ j hjy];exact K3.o.2.2.2.2.2.2.2 j hj
        case measure=>simp [intOf];omega
 all_goals
  go_enter Tryz.func4,Tryz.ntmps4;go_wp2_with (fail);refine HA.o.mono ?_;rintro e W1 ⟨rfl,b1⟩;have B1:=hhh b1;clear b1;go_wp2;go_ret;exact ⟨rfl,B1.o⟩
end Go.Proofs.YtjfblahlkjopcaaGreat.gateRuns
