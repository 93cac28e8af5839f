/- GateTimes: the walk. -/
import Derived.Test.YtcjflgmcjfcodaaGreatM34
import Derived.Test.YtcjflgmcjfcodaaGreatM43
import Derived.Test.YtcjflgmcjfcodaaGreatM44
import Derived.Test.YtcjflgmcjfcodaaGreatM49
import Derived.Test.YtcjflgmcjfcodaaGreatM50
import Derived.Deep.CutBlock
import Derived.Deep.CutRange
set_option maxRecDepth 100000
set_option maxHeartbeats 8000000
namespace Go.Proofs.Tryz end Go.Proofs.Tryz
namespace Go.Proofs.YtcjflgmcjfcodaaGreat.gateTimes
open Go.Proofs.Tryz
open Go.RowKit Gate
open Purse (ints)
theorem aCb (L:Nat) (hL:L <= 60):Pip.right (Ses.gK L)=true:=by
 refine (Pip.fT _).2 ?_;show (1:Int) <= 1 /\ (1:Int) <= 3 /\ (1:Int) <= 1 /\ (1:Int) <= 3 /\ (1:Int) <= 2 /\ (2:Int) <= 16 /\ (0:Int) <= 0 /\ (0:Int) <= 2000 /\ (0:Int) <= (L:Int) /\ (L:Int) <= 255;omega
structure At (T:Esc.bA) (N:Nat) (a b:Se) (E:Timer.Ents) (k i1 m gb:Nat) (W1 wr:World) (l:Lay) (g:Ga):Prop where
 good:l.Good g
 ok:g.Ok T N
 sane:g.iB
 two:Two a b E k i1 m g
 gb:l.gb=gb
 cO:Own.aA [] (l.heap g) W1 wr
theorem At.next {T : Esc.bA} {N N' : Nat} {a b a' b' : Se} {E E' : Timer.Ents} {k i1 m k' i1' m' gb : Nat} {W1 wr w' : World} {l : Lay} {g G : Ga} (A : At T N a b E k i1 m gb W1 wr l g) (n : Gate.Next T N' l g wr G w') (t : Two a' b' E' k' i1' m' G) :
  ∃ l' g',At T N' a' b' E' k' i1' m' gb W1 w' l' g' /\ g'.flat=G.flat:=by
 obtain ⟨l',g',h1,h2,h3,h4,h5,h6⟩:=n;exact ⟨l',g',⟨h1,h2,h3,t.of_flat h4,h5.trans A.gb,A.cO.trans h6⟩,h4⟩
theorem jO {a b:Se} {E:Timer.Ents} {k i1 m:Nat} {g:Ga} (t:Two a b E k i1 m g) (ha:a.ended=true) (ho:a.out=[75,255,12]):(g.write 0 99).1=[75,255,12]:=by
 unfold Ga.write;rw [t.pL];simp only [t.at0];rw [ifp ⟨ha,by rw [ho];decide⟩];exact ho
theorem aMf (S : Timer.gV) (T : Esc.bA) (a0 a1 : Int) (busy : Bool) (_w0 : (Lit.int .i64 a0).wf = true) (_w1 : (Lit.int .i64 a1).wf = true) (w : World) (hT : Esc.bP T w) :
  Calls prog 3 #[.int .i64 a0,.int .i64 a1,.bool busy] w fun e w'=>e = .returned (.bool true) /\ Below w.heap.size w w':=by
 have HA:=hhh (aFk T w);have BT:=hhh (fun (u v:World) (b:Below w.heap.size w u) (b2:Below u.heap.size u v)=>(b.trans (b2.mono b.size):Below w.heap.size w v));have HTb:=hhh (fun (u:World) (h:Below w.heap.size w u)=>(hT.of (h.mono hT.size):Esc.bP T u));clear _w0 _w1 hT;rcases (show a0 < 0 \/ 60 < a0 \/ (0 <= a0 /\ a0 <= 60 /\ a1 < 0) \/ (0 <= a0 /\ a0 <= 60 /\ 0 <= a1 /\ 80 < a1) \/ (0 <= a0 /\ a0 <= 60 /\ 0 <= a1 /\ a1 <= 80) by omega) with h1 | h1 | ⟨h1,h2,h3⟩ | ⟨h1,h2,h3,h4⟩ | ⟨h1,h2,h3,h4⟩
 case inr.inr.inr.inr =>
  obtain ⟨L,rfl⟩:∃ n:Nat,a0=(n:Int):=⟨a0.toNat,by omega⟩;obtain ⟨m,rfl⟩:∃ n:Nat,a1=(n:Int):=⟨a1.toNat,by omega⟩;have hL:L <= 60:=by omega
  have HL:=hhh hL;obtain ⟨s0,hq0,hq1⟩:=aL4 T L hL;have Q:=hhh hq0;have QB:=hhh hq1;clear hq0 hq1;have HN:=hhh (fun W=>eO 40000 2 (by decide) (by decide) (by decide) (by decide) W);have O0:=hhh (Ga.Ok.new T 60 (by decide) 40000 2 (by decide));have S0:=hhh (show (Ga.new 40000 2).iB from ⟨(fun s hs=>by have:=(List.mem_replicate.1 hs).2;cases this),Nat.zero_le _⟩);have HP:=hhh (fun u=>Pip.aHf (Ses.gK L) (aCb L hL) u);obtain ⟨PB,hPB⟩:∃ PB:ByteArray,PB=⟨(Pip.aQ (Ses.gK L)).toArray⟩:=⟨_,rfl⟩;rw [<- hPB] at HP;unfold Pip.Setup.val Ses.gK at HP;simp only at HP;have HPB:=hhh (show PB.data.toList=Pip.aQ (Ses.gK L) /\ PB.size=8 by rw [hPB];exact ⟨rfl,rfl⟩);clear hPB hL;go_enter func3,ntmps3;go_wp2_with (fail);refine HA.o.mono ?_;rintro e W1 ⟨rfl,b1⟩;have B1:=hhh b1;clear b1;have bot:=fun {h:Own.Heap} {u:World} (t:Own.aA [] h W1 u)=>BT.o _ _ B1.o (t.below (B:=W1.heap.size) (fun x hx=>by cases hx) (Nat.le_refl _))
  have Bot:=@hhh _ @bot;have hbl:=fun {h:Own.Heap} {u:World} (t:Own.aA [] h W1 u)=>t.least (B:=Esc.tabsEnd) (fun x hx=>by cases hx) (HTb.o _ B1.o).size
  have Hbl:=@hhh _ @hbl;clear bot hbl;go_wp2_with (fail);refine (HN.o _).mono ?_;rintro e W2 ⟨l0,rfl,k0,t0⟩;have Z0:=hhh (ai k0 t0);clear k0 t0 HN;go_wp2_with (fail);refine (HP.o _).mono ?_;rintro e W3 ⟨rfl,b3⟩;have Z3:=hhh (Z0.o.2.trans (Own.aA.aJ Z0.o.2.has b3));have HC1:=kK Z0.o.1 O0.o S0.o Z3.o.has (Nat.zero_le _);rw [show (Ga.new 40000 2).connect.1=(0,[]) from B0_conn] at HC1;have HC1:=hhh HC1;clear b3 HP;go_wp2_with (fail);refine HC1.o.mono ?_;rintro e W4 ⟨rfl,l1,g1,k1,o1,s1,f1,e1,t1⟩;have HC2:=kK k1 o1 s1 t1.has (by rw [show g1.many=1 from congrArg Ga.many f1];decide);rw [(sW (G:=Gate.B1) f1).1,B1_conn,e1] at HC2;have HC2:=hhh HC2;have Z4:=hhh (ai (Z3.o.trans t1) (ai e1 f1));clear k1 o1 s1 f1 e1 t1 HC1;go_wp2_with (fail);refine HC2.o.mono ?_;rintro e W5 ⟨rfl,l2,g2,k2,o2,s2,f2,e2,t2⟩;have A5:=hhh (show At T 60 Ses.St.new Ses.St.new [ent 0 0 0 0,ent 1 0 0 0] 0 3 2 l0.gb W1 W5 l2 g2 from ⟨k2,o2,s2,B2_two.of_flat (f2.trans (sW (G:=Gate.B1) Z4.o.2.2).2),e2.trans Z4.o.2.1,Z4.o.1.trans t2⟩);clear k2 o2 s2 f2 e2 t2 HC2;have HCh:=nN A5.o.good A5.o.ok A5.o.sane A5.o.cO.has 0 PB (by have:=HPB.o.2;omega);rw [HPB.o.1,A5.o.gb] at HCh;have HCh:=hhh HCh;go_wp2_with (fail);refine HCh.o.mono ?_;rintro e W6 ⟨rfl,n6⟩;obtain ⟨l3,g3,a6,-⟩:=A5.o.next n6 (aE0 HL.o A5.o.two A5.o.ok);have A6:=hhh a6;clear n6 a6 HCh;have HRu:=aCu A6.o.good A6.o.ok (by decide) A6.o.sane A6.o.cO.has (Hbl.o A6.o.cO) (HTb.o _ (Bot.o A6.o.cO));rw [A6.o.gb] at HRu;have HRu:=hhh HRu;go_wp2_with (fail);refine HRu.o.mono ?_;rintro e W7 ⟨rfl,n7⟩;obtain ⟨l4,g4,a7,-⟩:=A6.o.next n7 (QB.o _ busy A6.o.two);have A7:=hhh (show At T 60 s0 (Ses.A1 0) (Es L busy false 0 0) 0 3 2 l0.gb W1 W7 l4 g4 from ⟨a7.good,a7.two.lower a7.ok (Q.o.good.mono (by decide)) (kV T 0 (by decide)).1,a7.sane,a7.two,a7.gb,a7.cO⟩);clear n7 a7 HRu;have hg0:aM L busy 0=false:=by
   unfold aM;simp only [decide_eq_false_iff_not];omega
  have HG0:=hhh hg0;clear hg0;go_wp2
  go_loopw [12, 14, 15] (fun ov gv kv wr => ∃ (k i1 : Nat) (B : Int) (G : Nat) (l : Lay) (g : Ga), ov = .int .i64 (i1 : Int) ∧ gv = .int .i64 (G : Int) ∧ kv = .int .i64 ((k : Int) + 1) ∧ k ≤ m ∧ i1 = 3 + 2 * (k / 3) ∧ G = (if aM L busy k then cN L busy else 0) ∧
    At T 60 (Gate.Z0 s0 (aM L busy k)) (Ses.A1 (k % 3)) (Es L busy (aM L busy k) k B) k i1 (2 + k / 3) l0.gb W1 wr l g) (fun _ _ kv _=>m + 1 - (intOf kv).toNat)
  case atStart=>exact ⟨0,3,0,0,l4,g4,rfl,rfl,rfl,by omega,rfl,by rw [HG0.o];rfl,by rw [HG0.o,jY];exact A7.o⟩
  case round =>
   obtain ⟨k,i1,B,G,l,g,rfl,rfl,rfl,hkm,hi1,hG,AA⟩:=hrel;have A8:=hhh AA;have HI1:=hhh (ai hi1 hG);clear AA;by_cases hk:k < m
   ·have hkI:(k:Int) + 1 <= (m:Int):=by omega
    have hk80:k <= 80:=by omega
    have HTk:=aHg S A8.o.good A8.o.ok (by decide) A8.o.sane A8.o.cO.has (by rw [A8.o.two.now];omega);obtain ⟨hlo,htw⟩:=A8.o.two.aJu;rw [hlo,A8.o.gb] at HTk;have HTw:=hhh htw;have hi1b:i1 <= 100:=by omega
    clear hi1 hG hlo htw;obtain ⟨LO,hLO⟩:∃ LO:List Nat,LO=(if aM L busy k=false /\ aM L busy (k + 1)=true then [0] else []):=⟨_,rfl⟩;rw [<- hLO] at HTk;have HTk:=hhh HTk;have HLO:=hhh hLO;clear hLO;go_wp2_with (fail);refine HTk.o.mono ?_;rintro e W9 ⟨ad,c,ho,l9,g9,rfl,hs9,k9,o9,s9,f9,e9,t9⟩;have A9:=hhh (show At T 60 (Gate.Z0 s0 (aM L busy (k + 1))) (Ses.A1 (k % 3)) (E1 L busy k B) (k + 1) i1 (2 + k / 3) l0.gb W1 W9 l9 g9 from ⟨k9,o9,s9,HTw.o.of_flat f9,e9,A8.o.cO.trans (Own.aA.forget t9)⟩);have HS9:=hhh (ai hs9 t9.has);clear hs9 k9 o9 s9 f9 e9 t9 HTk
    go_upto_block 2 with fail
    go_cut [14] from 68 to 128 (fun s14 wx=>s14 = .int .i64 (((if aM L busy (k + 1) then cN L busy else 0:Nat)):Int) /\ wx=W9)
    case first =>
     by_cases hlate:aM L busy k=false /\ aM L busy (k + 1)=true
     ·have hl1:LO=[0]:=by rw [HLO.o,ifp hlate]
      have hgl:cN L busy=k + 1:=by
       have h1:=hlate.1;have h2:=hlate.2;unfold aM at h1 h2;simp only [decide_eq_true_eq,decide_eq_false_iff_not] at h1 h2;omega
      have GV:=hhh (show Value.int .i64 ((k:Int) + 1) = .int .i64 (((if aM L busy (k + 1) then cN L busy else 0:Nat)):Int) by rw [hlate.2,ifp rfl,hgl];rfl);subst hl1;obtain ⟨hb,p1,spare,hv1,hv2,_⟩:=Timer.zX HS9.o.1 (by decide);injection hv1 with ha1 _ _
      subst ha1;have hcell:W9.cell? ⟨hb,p1.length,none⟩=some (.int .i64 0):=HS9.o.2.cell hb 3 _ (by rw [hv2];exact List.mem_append_left _ msr) p1.length _ (by simp [ints]);clear hlate hgl hv2;go_wp2;refine wp_loop_rounds 2 ?_;rw [rounds_succ];go_wp2;rw [rounds_succ];go_wp2
      go_meet
      case rel=>exact ⟨GV.o,rfl⟩
     ·have hl1:LO=[]:=by rw [HLO.o,ifn hlate]
      have h6:aM L busy (k + 1)=aM L busy k:=by
       cases ha:aM L busy k with
       | true =>
        unfold aM at ha |-;simp only [decide_eq_true_eq] at ha |-;omega
       | false =>
        cases hb:aM L busy (k + 1) with
        | false=>rfl
        | true=>exact absurd ⟨ha,hb⟩ hlate
      have GV:=hhh (show Value.int .i64 (G:Int) = .int .i64 (((if aM L busy (k + 1) then cN L busy else 0:Nat)):Int) by rw [h6,<- HI1.o.2]);subst hl1;clear hlate h6;go_wp2;refine wp_loop_rounds 1 ?_;rw [rounds_succ];go_wp2
      go_meet
      case rel=>exact ⟨GV.o,rfl⟩
    case rest =>
     obtain ⟨rfl,rfl⟩:=hcut;clear HS9 HLO;obtain ⟨GG,hGG⟩:∃ GG:Nat,GG=(if aM L busy (k + 1) then cN L busy else 0):=⟨_,rfl⟩;rw [<- hGG];have HGG:=hhh hGG
     have NR:=hhh (show (Gate.Z0 s0 (aM L busy (k + 1))).ready=false /\ (Ses.R1 (k % 3)).ready=false from ⟨by
      cases hg:aM L busy (k + 1) with
      | true=>rw [iZ];exact (Ses.tF (Pip.aO T) s0 12).2
      | false=>rw [jY];exact Q.o.aDi.2.2,(Ses.aC5 (Pip.aO T) (k % 3) (Nat.mod_lt _ (by decide))).2⟩)
     clear hGG
     go_upto_region 22 with (fail)
     go_cut [95] from 68 to 128 (fun s95 wx=>s95 = .bool false /\ ∃ (a2:Se) (lx:Lay) (gx:Ga),At T 60 a2 (Ses.A1 (k % 3)) (E2 L busy k B) (k + 1) i1 (2 + k / 3) l0.gb W1 wx lx gx /\ Ses.gY (Pip.aO T) a2 (Gate.Z0 s0 (aM L busy (k + 1))))
     case first =>
      cases hgb1:aM L busy (k + 1) with
      | true =>
       have hGp:0 < GG:=by
        have h1:=HGG.o;rw [hgb1,ifp rfl] at h1;unfold aM at hgb1;simp only [decide_eq_true_eq] at hgb1;omega
       have hG0:((GG:Int) == 0)=false:=by rw [bfn];omega
       have AX:=hhh (show At T 60 (Gate.Z0 s0 (aM L busy (k + 1))) (Ses.A1 (k % 3)) (E2 L busy k B) (k + 1) i1 (2 + k / 3) l0.gb W1 wc l9 g9 by have h9:=A9.o;rw [aJg L busy k B hgb1] at h9;exact h9);have GX:=hhh (show Ses.gY (Pip.aO T) (Gate.Z0 s0 (aM L busy (k + 1))) (Gate.Z0 s0 (aM L busy (k + 1))) by rw [hgb1,iZ];exact (Ses.tF (Pip.aO T) s0 12).1);clear hgb1 hGp;go_wp2_with (fail)
       go_meet
       case rel=>exact ⟨rfl,_,_,_,AX.o,GX.o⟩
      | false =>
       obtain rfl:GG=0:=by rw [HGG.o,hgb1];rfl
       have hq:=Q.o.aDi
       cases busy with
       | false =>
        have AX:=hhh (show At T 60 (Gate.Z0 s0 (aM L false (k + 1))) (Ses.A1 (k % 3)) (E2 L false k B) (k + 1) i1 (2 + k / 3) l0.gb W1 wc l9 g9 by have h9:=A9.o;rw [aKn L k B] at h9;exact h9);have GX:=hhh (show Ses.gY (Pip.aO T) (Gate.Z0 s0 (aM L false (k + 1))) (Gate.Z0 s0 (aM L false (k + 1))) by rw [hgb1,jY];exact hq.2.1);clear hgb1 hq;go_wp2_with (fail)
        go_meet
        case rel=>exact ⟨rfl,_,_,_,AX.o,GX.o⟩
       | true =>
        have q:=Q.o;have hz:Gate.Z0 s0 (aM L true (k + 1))=s0:=by rw [hgb1,jY]
        have GX:=hhh (show Ses.gY (Pip.aO T) { Gate.Z0 s0 (aM L true (k + 1)) with inb:=(Gate.Z0 s0 (aM L true (k + 1))).inb ++ [32] } (Gate.Z0 s0 (aM L true (k + 1))) by rw [hz,q.inb];exact hq.1);obtain ⟨b1,b2⟩:=A9.o.two.aLd A9.o.ok (Q.o.wM _) (kV T _ (Nat.mod_lt _ (by decide))).2.2.1 (by rw [hz];exact q.half) (by rw [hz];exact q.ended) (by rw [hz,q.inb];decide) 32;rw [aI6 L k B hgb1] at b2;have HCb:=nN A9.o.good A9.o.ok A9.o.sane A9.o.cO.has 0 ⟨#[32]⟩ (by decide);have b1':(g9.chunk 0 (ByteArray.mk #[32]).data.toList).1=1:=b1;rw [A9.o.gb,b1'] at HCb;have HCb:=hhh HCb;have HB2:=hhh b2;clear hgb1 hq q hz b1 b1' b2;go_wp2_with (fail);refine HCb.o.mono ?_;rintro e Wb ⟨rfl,nb⟩;obtain ⟨lb,gb9,ab,-⟩:=A9.o.next nb HB2.o;have AX:=hhh ab;clear nb ab HCb HB2;go_wp2_with (fail)
        go_meet
        case rel=>exact ⟨rfl,_,_,_,AX.o,GX.o⟩
     case rest =>
      obtain ⟨rfl,a2,lx,gx,ax,gox⟩:=hcut;have AX:=hhh ax;have GX:=hhh gox;clear ax gox;go_wp2;go_loopw [18] (fun rv wr=>∃ (j:Nat) (x y:Se) (l:Lay) (g:Ga),rv = .int .i64 (j:Int) /\ j <= 3 /\ At T (60 + 16 * j) x y (E2 L busy k B) (k + 1) i1 (2 + k / 3) l0.gb W1 wr l g /\ Ses.gY (Pip.aO T) x (Gate.Z0 s0 (aM L busy (k + 1))) /\ Ses.gY (Pip.aO T) y (Ses.R1 (k % 3)) /\ cnt x y <= 2 - j) (fun rv _=>3 - (intOf rv).toNat)
      case atStart=>exact ⟨0,_,_,_,_,rfl,by omega,AX.o,GX.o,(Ses.aC5 _ _ (Nat.mod_lt _ (by decide))).1,by unfold cnt;split <;> split <;> omega⟩
      case round =>
       obtain ⟨j,x,y,lr,gr,rfl,hj,ar,gx,gy,hc⟩:=hrel;have AR:=hhh (ai ar (ai gx (ai gy hc)));clear ar gx gy hc;by_cases hj3:j < 3
       ·have hjI:(j:Int) < 3:=by omega
        have HRu:=aCu AR.o.1.good AR.o.1.ok (by omega) AR.o.1.sane AR.o.1.cO.has (Hbl.o AR.o.1.cO) (HTb.o _ (Bot.o AR.o.1.cO));rw [AR.o.1.gb] at HRu;have HRu:=hhh HRu;go_wp2_with (fail);refine HRu.o.mono ?_;rintro e Wr ⟨rfl,nr⟩;obtain ⟨x',y',h1,h2,h3,h4⟩:=AR.o.1.two.run AR.o.2.1 AR.o.2.2.1 NR.o.1 NR.o.2;obtain ⟨lr',gr',a',-⟩:=AR.o.1.next nr h1;have AR2:=hhh (ai a' (ai h2 (ai h3 (show cnt x' y' <= 2 - (j + 1) by have:=AR.o.2.2.2;omega))));clear nr h1 h2 h3 h4 a' HRu;go_wp2;go_roundw
        case rel=>exact ⟨j + 1,x',y',lr',gr',by go_num,by omega,by rw [show 60 + 16 * (j + 1)=60 + 16 * j + 16 by omega];exact AR2.o.1,AR2.o.2.1,AR2.o.2.2.1,AR2.o.2.2.2⟩
        case measure=>simp [intOf];omega
       ·have hjI:¬ (j:Int) < 3:=by omega
        obtain ⟨hx,hy⟩:=aIt AR.o.2.1 AR.o.2.2.1 (by have:=AR.o.2.2.2;omega)
        have AY:=hhh (show At T 60 (Gate.Z0 s0 (aM L busy (k + 1))) (Ses.R1 (k % 3)) (E2 L busy k B) (k + 1) i1 (2 + k / 3) l0.gb W1 wr lr gr from by
         have a:=AR.o.1;rw [hx,hy] at a
         exact ⟨a.good,a.two.lower a.ok (Q.o.aBo _) (kV T _ (Nat.mod_lt _ (by decide))).2.1,a.sane,a.two,a.gb,a.cO⟩)
        clear hx hy AR;have hodd:i1 % 2=1:=by have:=HI1.o.1;omega
        have HCo:=nN AY.o.good AY.o.ok AY.o.sane AY.o.cO.has (i1:Int) ⟨#[84]⟩ (by decide);rw [AY.o.gb] at HCo;have HQ:=hhh (ai (Q.o.wM (aM L busy (k + 1))) (kV T (k % 3) (Nat.mod_lt _ (by decide))).2.2.2);have HOd:=hhh hodd;by_cases hr:k % 3=2
        ·have hr2:Ses.R1 (k % 3)=Ses.R1 2:=by rw [hr]
         have AZ:=hhh (show At T 60 (Gate.Z0 s0 (aM L busy (k + 1))) (Ses.R1 2) (E2 L busy k B) (k + 1) i1 (2 + k / 3) l0.gb W1 wr lr gr by have h9:=AY.o;rw [hr2] at h9;exact h9);obtain ⟨c1,c2⟩:=AZ.o.two.zJ hodd rfl 84;have c1':(gr.chunk (i1:Int) (ByteArray.mk #[84]).data.toList).1=0:=c1;rw [c1'] at HCo;have HCo:=hhh HCo;have HC2:=hhh c2;have hk3:¬ (k:Int) + 1 < 3:=by omega
         have HR:=hhh hr;clear c1 c1' c2 hr2 hodd hr;go_wp2_with (fail);refine HCo.o.mono ?_;rintro e Wc ⟨rfl,nc⟩;obtain ⟨lc,gc,ac,-⟩:=AZ.o.next nc HC2.o;have HEn:=fL ac.good ac.ok ac.cO.has (i1:Int) 1 (ac.two.yJ HOd.o) (Ses.R1 2) ac.two.at1;rw [ac.gb,show (Ses.R1 2).ended=true from rfl,show (Ses.R1 2).e=2 from rfl] at HEn;have HEn:=hhh HEn;have AC:=hhh ac;clear nc ac HCo HC2;go_wp2_with (fail);refine HEn.o.mono ?_;rintro e We ⟨rfl,te⟩;have AE:=hhh (show At T 60 (Gate.Z0 s0 (aM L busy (k + 1))) (Ses.R1 2) (E2 L busy k B) (k + 1) i1 (2 + k / 3) l0.gb W1 We lc gc from ⟨AC.o.good,AC.o.ok,AC.o.sane,AC.o.two,AC.o.gb,AC.o.cO.trans te⟩);clear te HEn;have HWr:=gE AE.o.good AE.o.ok AE.o.sane AE.o.cO.has (i1:Int) 9;rw [AE.o.gb] at HWr;have HWr:=hhh HWr;have HAg:=hhh (AE.o.two.again HOd.o rfl 9 (by decide));go_wp2_with (fail);refine HWr.o.mono ?_;rintro e Ww ⟨rfl,lw,gw,kw,ow,sw,fw,ew,tw⟩;have HAw:=HAg.o.2 gw fw;have HCn:=kK kw ow sw tw.has (by rw [HAw.2.1];omega);rw [HAw.1,ew,AE.o.gb] at HCn;have HCn:=hhh HCn;have TW:=hhh (AE.o.cO.trans tw);have HAw:=hhh (ai HAw.2.2 (ew.trans AE.o.gb));clear kw ow sw fw ew tw HWr HAg;go_wp2_with (fail);refine HCn.o.mono ?_;rintro e Wn ⟨rfl,ln,gn,kn,on_,sn,fn,en,tn⟩;have h9:=HAw.o.1.of_flat fn;rw [aLl] at h9;have AN:=hhh (show At T 60 (Gate.Z0 s0 (aM L busy (k + 1))) (Ses.A1 0) (Es L busy (aM L busy (k + 1)) (k + 1) ((k + 1:Nat):Int)) (k + 1) (1 + 2 * (2 + k / 3)) (2 + k / 3 + 1) l0.gb W1 Wn ln gn from ⟨kn,h9.lower on_ (Q.o.aBo _) (kV T 0 (by decide)).1,sn,h9,en.trans HAw.o.2,TW.o.trans tn⟩);clear h9 kn on_ sn fn en tn HCn;go_wp2;go_roundw
         case rel =>
          have hd:(k + 1) / 3=k / 3 + 1 /\ (k + 1) % 3=0:=by have:=HR.o;omega
          refine ⟨k + 1,1 + 2 * (2 + k / 3),((k + 1:Nat):Int),GG,ln,gn,by first | rfl | (congr 1;omega),by rfl,by go_num,by omega,by rw [hd.1];omega,HGG.o,?_⟩;rw [hd.1,hd.2];exact AN.o
         case measure=>simp [intOf];omega
        ·have hr1:k % 3 < 2:=by omega
         have hR1:(Ses.R1 (k % 3)).half=false /\ (Ses.R1 (k % 3)).ended=false /\ (Ses.R1 (k % 3)).inb.length < 64 /\ ({ Ses.R1 (k % 3) with inb:=(Ses.R1 (k % 3)).inb ++ [84] }:Ses.St)=Ses.A1 (k % 3 + 1) /\ (Ses.A1 (k % 3 + 1)).e=0 /\ (Ses.A1 (k % 3 + 1)).ended=false:=by
          rcases (show k % 3=0 \/ k % 3=1 by omega) with h | h <;> rw [h] <;> exact ⟨rfl,rfl,by decide,rfl,rfl,rfl⟩
         obtain ⟨c1,c2⟩:=AY.o.two.aLq hodd AY.o.ok HQ.o.1 HQ.o.2 hR1.1 hR1.2.1 hR1.2.2.1 84;have c1':(gr.chunk (i1:Int) (ByteArray.mk #[84]).data.toList).1=1:=c1;rw [hR1.2.2.2.1,aLh] at c2;rw [c1'] at HCo;have HCo:=hhh HCo;have HC2:=hhh c2;have HR:=hhh (ai hr1 hR1.2.2.2.2);clear c1 c1' c2 hodd hr hr1 hR1;go_wp2_with (fail);refine HCo.o.mono ?_;rintro e Wc ⟨rfl,nc⟩;obtain ⟨lc,gc,ac,-⟩:=AY.o.next nc HC2.o;have HEn:=fL ac.good ac.ok ac.cO.has (i1:Int) 1 (ac.two.yJ HOd.o) (Ses.A1 (k % 3 + 1)) ac.two.at1;rw [ac.gb,HR.o.2.1,HR.o.2.2] at HEn;have HEn:=hhh HEn;have AC:=hhh ac;clear nc ac HCo HC2;go_wp2_with (fail);refine HEn.o.mono ?_;rintro e We ⟨rfl,te⟩;have AE:=hhh (show At T 60 (Gate.Z0 s0 (aM L busy (k + 1))) (Ses.A1 (k % 3 + 1)) (Es L busy (aM L busy (k + 1)) (k + 1) B) (k + 1) i1 (2 + k / 3) l0.gb W1 We lc gc from ⟨AC.o.good,AC.o.two.lower AC.o.ok (Q.o.aBo _) (kV T _ (by have:=HR.o.1;omega)).1,AC.o.sane,AC.o.two,AC.o.gb,AC.o.cO.trans te⟩);clear te HEn;go_wp2;go_roundw
         case rel =>
          have hd:(k + 1) / 3=k / 3 /\ (k + 1) % 3=k % 3 + 1:=by have:=HR.o.1;omega
          refine ⟨k + 1,i1,B,GG,lc,gc,by first | rfl | (congr 1;omega),by rfl,by go_num,by omega,by rw [hd.1];exact HI1.o.1,HGG.o,?_⟩;rw [hd.1,hd.2];exact AE.o
         case measure=>simp [intOf];omega
   ·obtain rfl:k=m:=by omega
    have hkI:¬ (k:Int) + 1 <= (k:Int):=by omega
    have hLI:(L:Int) <= 60:=by have:=HL.o;omega
    have hGo:G=(if cN L busy ≠ 0 /\ cN L busy <= k then cN L busy else 0):=by
     rw [HI1.o.2];unfold aM;by_cases h:cN L busy ≠ 0 /\ cN L busy <= k
     ·rw [ifp h,ifp (decide_eq_true h)]
     ·rw [ifn h,ifn (by simp only [decide_eq_true_eq];exact h)]
    have HGo:=hhh hGo;clear hGo hi1 hG
    cases busy with
    | true =>
     by_cases hL0:L=0
     ·have hW:cN L true=0:=by unfold cN;rw [ifp rfl,ifp hL0]
      obtain rfl:G=0:=by rw [HGo.o,hW];rfl
      have hl0:¬ (0:Int) < (L:Int):=by omega
      have hk0:¬ (k:Int) < 0:=by omega
      clear hW hL0;go_wp2;go_ret;exact ⟨rfl,Bot.o A8.o.cO⟩
     ·have hW:cN L true=L + 1:=by unfold cN;rw [ifp rfl,ifn hL0]
      have hl0:(0:Int) < (L:Int):=by omega
      by_cases hm:L + 1 <= k
      ·have hGv:(G:Int)=(L:Int) + 1:=by rw [HGo.o,hW,ifp ⟨by omega,hm⟩];omega
       have hmI:¬ (k:Int) < (L:Int) + 1:=by omega
       have hg0:(((L:Int) + 1:Int) == 0)=false:=by rw [bfn];omega
       have hgone:aM L true k=true:=by unfold aM;rw [hW];exact decide_eq_true ⟨by omega,hm⟩
       have hz:Gate.Z0 s0 (aM L true k)=s0.halt 12:=by rw [hgone,iZ]
       have ho:=Q.o.words;have AG:=hhh (show At T 60 (s0.halt 12) (Ses.A1 (k % 3)) (Es L true (aM L true k) k B) k i1 (2 + k / 3) l0.gb W1 wr l g by have h9:=A8.o;rw [hz] at h9;exact h9);have HEn:=fL AG.o.good AG.o.ok AG.o.cO.has 0 0 AG.o.two.pL _ AG.o.two.at0;rw [AG.o.gb,ho.2,Gate.halted] at HEn;have HEn:=hhh HEn;have HLw:=hhh (jO AG.o.two (Gate.halted _ _) ho.1);clear hW hm hgone hz ho hL0;go_wp2_with (fail);refine HEn.o.mono ?_;rintro e We ⟨rfl,te⟩;have TE:=hhh (AG.o.cO.trans te);have HWr:=gE AG.o.good AG.o.ok AG.o.sane TE.o.has 0 99;rw [HLw.o,AG.o.gb] at HWr;have HWr:=hhh HWr;clear te HEn;go_wp2_with (fail);refine HWr.o.mono ?_;rintro e Ww ⟨rfl,lw,gw,kw,ow,sw,fw,ew,tw⟩;have TW:=hhh (TE.o.trans tw);clear kw ow sw fw ew tw HWr;go_wp2;go_ret;exact ⟨rfl,Bot.o TW.o⟩
      ·obtain rfl:G=0:=by rw [HGo.o,hW,ifn (fun h=>hm h.2)]
       have hmI:(k:Int) < (L:Int) + 1:=by omega
       clear hW hL0 hm;go_wp2;go_ret;exact ⟨rfl,Bot.o A8.o.cO⟩
    | false =>
     by_cases hL0:L=0
     ·have hW:cN L false=31:=by unfold cN;rw [ifn (by decide),ifp hL0]
      have hl0:¬ (0:Int) < (L:Int):=by omega
      by_cases hm:31 <= k
      ·have hGv:(G:Int)=31:=by rw [HGo.o,hW,ifp ⟨by omega,hm⟩];omega
       have hmI:¬ (k:Int) < 31:=by omega
       have hg0:((31:Int) == 0)=false:=by rw [bfn];omega
       have hgone:aM L false k=true:=by unfold aM;rw [hW];exact decide_eq_true ⟨by omega,hm⟩
       have hz:Gate.Z0 s0 (aM L false k)=s0.halt 12:=by rw [hgone,iZ]
       have ho:=Q.o.words;have AG:=hhh (show At T 60 (s0.halt 12) (Ses.A1 (k % 3)) (Es L false (aM L false k) k B) k i1 (2 + k / 3) l0.gb W1 wr l g by have h9:=A8.o;rw [hz] at h9;exact h9);have HEn:=fL AG.o.good AG.o.ok AG.o.cO.has 0 0 AG.o.two.pL _ AG.o.two.at0;rw [AG.o.gb,ho.2,Gate.halted] at HEn;have HEn:=hhh HEn;have HLw:=hhh (jO AG.o.two (Gate.halted _ _) ho.1);clear hW hm hgone hz ho hL0;go_wp2_with (fail);refine HEn.o.mono ?_;rintro e We ⟨rfl,te⟩;have TE:=hhh (AG.o.cO.trans te);have HWr:=gE AG.o.good AG.o.ok AG.o.sane TE.o.has 0 99;rw [HLw.o,AG.o.gb] at HWr;have HWr:=hhh HWr;clear te HEn;go_wp2_with (fail);refine HWr.o.mono ?_;rintro e Ww ⟨rfl,lw,gw,kw,ow,sw,fw,ew,tw⟩;have TW:=hhh (TE.o.trans tw);clear kw ow sw fw ew tw HWr;go_wp2;go_ret;exact ⟨rfl,Bot.o TW.o⟩
      ·obtain rfl:G=0:=by rw [HGo.o,hW,ifn (fun h=>hm h.2)]
       have hmI:(k:Int) < 31:=by omega
       clear hW hL0 hm;go_wp2;go_ret;exact ⟨rfl,Bot.o A8.o.cO⟩
     ·have hl0:(0:Int) < (L:Int):=by omega
      by_cases hL3:L < 30
      ·have hW:cN L false=L + 1:=by unfold cN;rw [ifn (by decide),ifn hL0,ifp hL3]
       have hl3:(L:Int) + 1 < 31:=by omega
       by_cases hm:L + 1 <= k
       ·have hGv:(G:Int)=(L:Int) + 1:=by rw [HGo.o,hW,ifp ⟨by omega,hm⟩];omega
        have hmI:¬ (k:Int) < (L:Int) + 1:=by omega
        have hg0:(((L:Int) + 1:Int) == 0)=false:=by rw [bfn];omega
        have hgone:aM L false k=true:=by unfold aM;rw [hW];exact decide_eq_true ⟨by omega,hm⟩
        have hz:Gate.Z0 s0 (aM L false k)=s0.halt 12:=by rw [hgone,iZ]
        have ho:=Q.o.words;have AG:=hhh (show At T 60 (s0.halt 12) (Ses.A1 (k % 3)) (Es L false (aM L false k) k B) k i1 (2 + k / 3) l0.gb W1 wr l g by have h9:=A8.o;rw [hz] at h9;exact h9);have HEn:=fL AG.o.good AG.o.ok AG.o.cO.has 0 0 AG.o.two.pL _ AG.o.two.at0;rw [AG.o.gb,ho.2,Gate.halted] at HEn;have HEn:=hhh HEn;have HLw:=hhh (jO AG.o.two (Gate.halted _ _) ho.1);clear hW hm hgone hz ho hL0;go_wp2_with (fail);refine HEn.o.mono ?_;rintro e We ⟨rfl,te⟩;have TE:=hhh (AG.o.cO.trans te);have HWr:=gE AG.o.good AG.o.ok AG.o.sane TE.o.has 0 99;rw [HLw.o,AG.o.gb] at HWr;have HWr:=hhh HWr;clear te HEn;go_wp2_with (fail);refine HWr.o.mono ?_;rintro e Ww ⟨rfl,lw,gw,kw,ow,sw,fw,ew,tw⟩;have TW:=hhh (TE.o.trans tw);clear kw ow sw fw ew tw HWr;go_wp2;go_ret;exact ⟨rfl,Bot.o TW.o⟩
       ·obtain rfl:G=0:=by rw [HGo.o,hW,ifn (fun h=>hm h.2)]
        have hmI:(k:Int) < (L:Int) + 1:=by omega
        clear hW hL0 hm;go_wp2;go_ret;exact ⟨rfl,Bot.o A8.o.cO⟩
      ·have hW:cN L false=31:=by unfold cN;rw [ifn (by decide),ifn hL0,ifn hL3]
       have hl3d:decide ((L:Int) + 1 < 31)=false:=decide_eq_false (by omega);clear hL3;by_cases hm:31 <= k
       ·have hGv:(G:Int)=31:=by rw [HGo.o,hW,ifp ⟨by omega,hm⟩];omega
        have hmI:¬ (k:Int) < 31:=by omega
        have hg0:((31:Int) == 0)=false:=by rw [bfn];omega
        have hgone:aM L false k=true:=by unfold aM;rw [hW];exact decide_eq_true ⟨by omega,hm⟩
        have hz:Gate.Z0 s0 (aM L false k)=s0.halt 12:=by rw [hgone,iZ]
        have ho:=Q.o.words;have AG:=hhh (show At T 60 (s0.halt 12) (Ses.A1 (k % 3)) (Es L false (aM L false k) k B) k i1 (2 + k / 3) l0.gb W1 wr l g by have h9:=A8.o;rw [hz] at h9;exact h9);have HEn:=fL AG.o.good AG.o.ok AG.o.cO.has 0 0 AG.o.two.pL _ AG.o.two.at0;rw [AG.o.gb,ho.2,Gate.halted] at HEn;have HEn:=hhh HEn;have HLw:=hhh (jO AG.o.two (Gate.halted _ _) ho.1);clear hW hm hgone hz ho hL0;go_wp2_with (fail);refine HEn.o.mono ?_;rintro e We ⟨rfl,te⟩;have TE:=hhh (AG.o.cO.trans te);have HWr:=gE AG.o.good AG.o.ok AG.o.sane TE.o.has 0 99;rw [HLw.o,AG.o.gb] at HWr;have HWr:=hhh HWr;clear te HEn;go_wp2_with (fail);refine HWr.o.mono ?_;rintro e Ww ⟨rfl,lw,gw,kw,ow,sw,fw,ew,tw⟩;have TW:=hhh (TE.o.trans tw);clear kw ow sw fw ew tw HWr;go_wp2;go_ret;exact ⟨rfl,Bot.o TW.o⟩
       ·obtain rfl:G=0:=by rw [HGo.o,hW,ifn (fun h=>hm h.2)]
        have hmI:(k:Int) < 31:=by omega
        clear hW hL0 hm;go_wp2;go_ret;exact ⟨rfl,Bot.o A8.o.cO⟩
 all_goals
  go_enter func3,ntmps3;go_wp2_with (fail);refine HA.o.mono ?_;rintro e W1 ⟨rfl,b1⟩;have B1:=hhh b1;clear b1;go_wp2;go_ret;exact ⟨rfl,B1.o⟩
theorem walk (T : Esc.bA) (a0 a1 : Int) (busy : Bool) (_w0 : (Lit.int .i64 a0).wf = true) (_w1 : (Lit.int .i64 a1).wf = true) (w : World) (hT : Esc.bP T w) :
  Calls prog 3 #[.int .i64 a0,.int .i64 a1,.bool busy] w fun e w'=>e = .returned (.bool true) /\ Below w.heap.size w w' :=
 aMf Timer.sortSome T a0 a1 busy _w0 _w1 w hT
end Go.Proofs.YtcjflgmcjfcodaaGreat.gateTimes
