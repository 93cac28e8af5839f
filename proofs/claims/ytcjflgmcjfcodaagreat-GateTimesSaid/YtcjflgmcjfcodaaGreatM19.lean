/- Texts of the walk, joined. -/
import Derived.Test.YtcjflgmcjfcodaaGreatM00
import Derived.Test.YtcjflgmcjfcodaaGreatM03
import Derived.Test.YtcjflgmcjfcodaaGreatM08
import Derived.Test.YtcjflgmcjfcodaaGreatM12
import Derived.BigQuiet
import Derived.Deep.QuietTactic
import Derived.Lib.Hide
import Derived.Test.YtcjflgmcjfcodaaGreatRows
import Derived.WalkKit
import Derived.WalkLawsBesides
import Derived.WalkSpells
set_option maxRecDepth 100000
set_option maxHeartbeats 8000000
namespace Go.Proofs.Tryz end Go.Proofs.Tryz
namespace Go.Proofs.YtcjflgmcjfcodaaGreat
open Go.Proofs.Tryz
section
open Go.RowKit
namespace Esc
def Chk.enc (c:Chk):List Value:=[.int .i64 c.lack,.int .u8 c.low.toNat,.int .u8 c.high.toNat,.bool c.bad]
def Rdr.enc (r:Rdr):List Value:=r.c.enc ++ [.int .i64 r.state,.int .i64 r.r,.int .i64 r.n,.int .i64 r.pair,.int .i64 r.e]
section
variable (w:World) (b:Nat) (T:TypeId) (pre post:List Value)
theorem nD (c : Chk) (x : UInt8) (h : At.Is w b T pre c.enc post) :
  Calls prog 173 #[.pointer (some ⟨b,pre.length,none⟩),.int .u8 x.toNat] w fun e w'=>e = .returned (.bool (c.start x).2) /\ At.Is w' b T pre (c.start x).1.enc post /\ At.aV b w w':=by
 have c0:=h.cell0 _ rfl;have c1:=h.cell 1 _ rfl;have c2:=h.cell 2 _ rfl;have f0:=h.free pre.length;have f1:=h.free (pre.length + 1);have f2:=h.free (pre.length + 2);have H:=hhh h;clear h;rcases (show (x.toNat < 128) \/ (194 <= x.toNat /\ x.toNat <= 223) \/ (x.toNat=224) \/ (225 <= x.toNat /\ x.toNat <= 236) \/ (x.toNat=237) \/ (238 <= x.toNat /\ x.toNat <= 239) \/ (x.toNat=240) \/ (241 <= x.toNat /\ x.toNat <= 243) \/ (x.toNat=244) \/ ((128 <= x.toNat /\ x.toNat <= 193) \/ 245 <= x.toNat) by omega) with h1 | ⟨h1,h2⟩ | h1 | ⟨h1,h2⟩ | h1 | ⟨h1,h2⟩ | h1 | ⟨h1,h2⟩ | h1 | h1
 ·have hst:c.start x=(⟨c.lack,128,191,c.bad⟩,true):=by
   unfold Chk.start
   repeat (first | rw [ifp (by omega)] | rw [ifn (by omega)])
  rw [hst];have HST:=hhh hst;clear hst HST;go_enter func173,ntmps173;go_wp2;go_ret;refine ⟨rfl,?_,(((At.aV.refl b w).set _ _).set _ _)⟩;have hfin:=((H.o.set 1 (.int .u8 128) (nlb rfl)).set 2 (.int .u8 191) (nlb rfl));exact hfin
 ·have hst:c.start x=(⟨1,128,191,c.bad⟩,true):=by
   unfold Chk.start
   repeat (first | rw [ifp (by omega)] | rw [ifn (by omega)])
  rw [hst];have HST:=hhh hst;clear hst HST;go_enter func173,ntmps173;go_wp2;go_ret;refine ⟨rfl,?_,((((At.aV.refl b w).set _ _).set _ _).set _ _)⟩;have hfin:=(((H.o.set 1 (.int .u8 128) (nlb rfl)).set 2 (.int .u8 191) (nlb rfl)).lG (.int .i64 1) (nlb rfl));exact hfin
 ·have hst:c.start x=(⟨2,160,191,c.bad⟩,true):=by
   unfold Chk.start
   repeat (first | rw [ifp (by omega)] | rw [ifn (by omega)])
  rw [hst];have HST:=hhh hst;clear hst HST;go_enter func173,ntmps173;go_wp2;go_ret;refine ⟨rfl,?_,(((((At.aV.refl b w).set _ _).set _ _).set _ _).set _ _)⟩;have hfin:=((((H.o.set 1 (.int .u8 128) (nlb rfl)).set 2 (.int .u8 191) (nlb rfl)).lG (.int .i64 2) (nlb rfl)).set 1 (.int .u8 160) (nlb rfl));exact hfin
 ·have hst:c.start x=(⟨2,128,191,c.bad⟩,true):=by
   unfold Chk.start
   repeat (first | rw [ifp (by omega)] | rw [ifn (by omega)])
  rw [hst];have HST:=hhh hst;clear hst HST;go_enter func173,ntmps173;go_wp2;go_ret;refine ⟨rfl,?_,((((At.aV.refl b w).set _ _).set _ _).set _ _)⟩;have hfin:=(((H.o.set 1 (.int .u8 128) (nlb rfl)).set 2 (.int .u8 191) (nlb rfl)).lG (.int .i64 2) (nlb rfl));exact hfin
 ·have hst:c.start x=(⟨2,128,159,c.bad⟩,true):=by
   unfold Chk.start
   repeat (first | rw [ifp (by omega)] | rw [ifn (by omega)])
  rw [hst];have HST:=hhh hst;clear hst HST;go_enter func173,ntmps173;go_wp2;go_ret;refine ⟨rfl,?_,(((((At.aV.refl b w).set _ _).set _ _).set _ _).set _ _)⟩;have hfin:=((((H.o.set 1 (.int .u8 128) (nlb rfl)).set 2 (.int .u8 191) (nlb rfl)).lG (.int .i64 2) (nlb rfl)).set 2 (.int .u8 159) (nlb rfl));exact hfin
 ·have hst:c.start x=(⟨2,128,191,c.bad⟩,true):=by
   unfold Chk.start
   repeat (first | rw [ifp (by omega)] | rw [ifn (by omega)])
  rw [hst];have HST:=hhh hst;clear hst HST;go_enter func173,ntmps173;go_wp2;go_ret;refine ⟨rfl,?_,((((At.aV.refl b w).set _ _).set _ _).set _ _)⟩;have hfin:=(((H.o.set 1 (.int .u8 128) (nlb rfl)).set 2 (.int .u8 191) (nlb rfl)).lG (.int .i64 2) (nlb rfl));exact hfin
 ·have hst:c.start x=(⟨3,144,191,c.bad⟩,true):=by
   unfold Chk.start
   repeat (first | rw [ifp (by omega)] | rw [ifn (by omega)])
  rw [hst];have HST:=hhh hst;clear hst HST;go_enter func173,ntmps173;go_wp2;go_ret;refine ⟨rfl,?_,(((((At.aV.refl b w).set _ _).set _ _).set _ _).set _ _)⟩;have hfin:=((((H.o.set 1 (.int .u8 128) (nlb rfl)).set 2 (.int .u8 191) (nlb rfl)).lG (.int .i64 3) (nlb rfl)).set 1 (.int .u8 144) (nlb rfl));exact hfin
 ·have hst:c.start x=(⟨3,128,191,c.bad⟩,true):=by
   unfold Chk.start
   repeat (first | rw [ifp (by omega)] | rw [ifn (by omega)])
  rw [hst];have HST:=hhh hst;clear hst HST;go_enter func173,ntmps173;go_wp2;go_ret;refine ⟨rfl,?_,((((At.aV.refl b w).set _ _).set _ _).set _ _)⟩;have hfin:=(((H.o.set 1 (.int .u8 128) (nlb rfl)).set 2 (.int .u8 191) (nlb rfl)).lG (.int .i64 3) (nlb rfl));exact hfin
 ·have hst:c.start x=(⟨3,128,143,c.bad⟩,true):=by
   unfold Chk.start
   repeat (first | rw [ifp (by omega)] | rw [ifn (by omega)])
  rw [hst];have HST:=hhh hst;clear hst HST;go_enter func173,ntmps173;go_wp2;go_ret;refine ⟨rfl,?_,(((((At.aV.refl b w).set _ _).set _ _).set _ _).set _ _)⟩;have hfin:=((((H.o.set 1 (.int .u8 128) (nlb rfl)).set 2 (.int .u8 191) (nlb rfl)).lG (.int .i64 3) (nlb rfl)).set 2 (.int .u8 143) (nlb rfl));exact hfin
 ·have hst:c.start x=(⟨c.lack,128,191,c.bad⟩,false):=by
   unfold Chk.start
   repeat (first | rw [ifp (by omega)] | rw [ifn (by omega)])
  rw [hst];have HST:=hhh hst;clear hst HST;rcases h1 with ⟨h1,h2⟩ | h1
  all_goals
   go_enter func173,ntmps173;go_wp2;go_ret;refine ⟨rfl,?_,(((At.aV.refl b w).set _ _).set _ _)⟩;have hfin:=((H.o.set 1 (.int .u8 128) (nlb rfl)).set 2 (.int .u8 191) (nlb rfl));exact hfin
end
end Esc
end
section
open Go.RowKit
namespace Esc
section
variable (w:World) (b:Nat) (T:TypeId) (pre post:List Value)
theorem kL (c : Chk) (x : UInt8) (hl : c.lack ≤ 3) (h : At.Is w b T pre c.enc post) :
  Calls prog 168 #[.pointer (some ⟨b,pre.length,none⟩),.int .u8 x.toNat] w fun e w'=>e = .returned (.bool (c.step x).2) /\ At.Is w' b T pre (c.step x).1.enc post /\ At.aV b w w':=by
 obtain ⟨lack,low,high,bad⟩:=c;replace hl:lack <= 3:=hl;have c0:=h.cell0 _ rfl;have c1:=h.cell 1 _ rfl;have c2:=h.cell 2 _ rfl;have c3:=h.cell 3 _ rfl;have f0:=h.free pre.length;have f1:=h.free (pre.length + 1);have f2:=h.free (pre.length + 2);have f3:=h.free (pre.length + 3);have H:=hhh h;clear h
 cases bad with
 | true =>
  go_enter func168,ntmps168;go_wp2;go_ret;exact ⟨rfl,H.o,At.aV.refl b w⟩
 | false =>
  by_cases h0:lack=0
  ·subst h0
   go_enter func168,ntmps168;go_wp2_with (fail);refine (nD w b T pre post ⟨0,low,high,false⟩ x H.o).mono ?_;rintro e w1 ⟨rfl,h1,o1⟩;have g3:=h1.free (pre.length + 3);have hs1:=h1.set 3 (.bool (!(Chk.start ⟨0,low,high,false⟩ x).2)) (nlb rfl);have k3:=h1.cell 3 _ rfl;have HS1:=hhh hs1;have H1:=hhh h1;clear hs1 h1;go_wp2;go_ret;refine ⟨?_,HS1.o,o1.set _ _⟩;simp [Chk.step]
  ·have hb0:((lack:Int) == 0)=false:=by simp;omega
   by_cases hr:x.toNat < low.toNat \/ high.toNat < x.toNat
   ·have hst:Chk.step ⟨lack,low,high,false⟩ x=(⟨lack,low,high,true⟩,false):=by
     simp [Chk.step,h0,hr]
    rw [hst];have hs:=H.o.set 3 (.bool true) (nlb rfl);have HS:=hhh hs;clear hs hst;have F2:=hhh hr;rcases hr with hr | hr
    ·go_enter func168,ntmps168
     go_wp2;go_ret;exact ⟨rfl,HS.o,(At.aV.refl b w).set _ _⟩
    ·by_cases hr2:x.toNat < low.toNat
     ·go_enter func168,ntmps168
      go_wp2;go_ret;exact ⟨rfl,HS.o,(At.aV.refl b w).set _ _⟩
     ·go_enter func168,ntmps168
      go_wp2;go_ret;exact ⟨rfl,HS.o,(At.aV.refl b w).set _ _⟩
   ·have hst:Chk.step ⟨lack,low,high,false⟩ x=(⟨lack - 1,128,191,false⟩,true):=by
     simp [Chk.step,h0,hr]
    rw [hst];obtain ⟨k,rfl⟩:∃ k,lack=k + 1:=⟨lack - 1,by omega⟩;have hs:=((H.o.lG (.int .i64 (k:Int)) (nlb rfl)).set 1 (.int .u8 128) (nlb rfl)).set 2 (.int .u8 191) (nlb rfl);have HS:=hhh hs;have hr1:¬ x.toNat < low.toNat:=fun h=>hr (.inl h)
    have hr2:¬ high.toNat < x.toNat:=fun h=>hr (.inr h)
    have hk3:k <= 2:=by omega
    clear hs hst hr;go_enter func168,ntmps168;go_wp2;go_ret;exact ⟨rfl,HS.o,(((At.aV.refl b w).set _ _).set _ _).set _ _⟩
theorem qB (c : Chk) (h : At.Is w b T pre c.enc post) :
  Calls prog 160 #[.pointer (some ⟨b,pre.length,none⟩)] w fun e w'=>e = .returned (.bool c.whole) /\ w=w':=by
 obtain ⟨lack,low,high,bad⟩:=c;have c0:=h.cell0 _ rfl;have c3:=h.cell 3 _ rfl;clear h
 cases bad with
 | true =>
  go_enter func160,ntmps160;go_wp2;go_ret;exact ⟨rfl,rfl⟩
 | false =>
  go_enter func160,ntmps160;go_wp2;go_ret;have e:((lack:Int) == 0)=(lack == 0):=by rw [Bool.eq_iff_iff];simp
  exact ⟨by simp [Chk.whole,e],rfl⟩
end
theorem lU (x:UInt8) (w:World):Calls prog 167 #[.int .u8 x.toNat] w fun e w'=>e = .returned (.int .i64 (hex x)) /\ w=w':=by
 have hx:=x.toNat_lt;obtain ⟨m,hm⟩:∃ m:Nat,m=x.toNat ||| 32:=⟨_,rfl⟩;have hor:bits .or .u8 (x.toNat:Int) 32=(m:Int):=by rw [hm];exact u8_or_nat x.toNat 32 hx (by decide)
 have hm2:m < 256:=by rw [hm];exact Nat.or_lt_two_pow (n:=8) hx (by decide)
 by_cases h1:48 <= x.toNat /\ x.toNat <= 57
 ·obtain ⟨h1,h2⟩:=h1
  have hh:hex x=(x.toNat:Int) - 48:=by rw [hex,ifp ⟨h1,h2⟩]
  have HH:=hhh hh;clear hh hm hor;go_enter func167,ntmps167;go_wp2;go_ret;exact ⟨by rw [HH.o];rfl,rfl⟩
 ·by_cases h2:97 <= m /\ m <= 102
  ·have hh:hex x=(m:Int) - 87:=by rw [hex,ifn h1,<- hm,ifp h2]
   obtain ⟨h2,h3⟩:=h2;have HH:=hhh hh;have HM:=hhh hm;clear hh hm;by_cases h4:48 <= x.toNat
   ·have h5:57 < x.toNat:=by omega
    clear h1;go_enter func167,ntmps167;go_wp2;go_ret;exact ⟨by rw [HH.o,show (m:Int) - 87=m - 97 + 10 by omega];rfl,rfl⟩
   ·clear h1
    go_enter func167,ntmps167;go_wp2;go_ret;exact ⟨by rw [HH.o,show (m:Int) - 87=m - 97 + 10 by omega];rfl,rfl⟩
  ·have hh:hex x = -1:=by rw [hex,ifn h1,<- hm,ifn h2]
   have HH:=hhh hh;have HM:=hhh hm;clear hh hm;rcases (show (x.toNat < 48 \/ 57 < x.toNat) by omega) with h4 | h4
   all_goals rcases (show (m < 97 \/ 102 < m) by omega) with h5 | h5
   all_goals
    clear h1 h2;go_enter func167,ntmps167;go_wp2;go_ret;exact ⟨by rw [HH.o];rfl,rfl⟩
theorem aEv (x:UInt8) : -1 <= hex x /\ hex x <= 15:=by
 unfold hex;split
 ·omega
 ·split <;> omega
end Esc
end
end Go.Proofs.YtcjflgmcjfcodaaGreat
