/- Texts of the walk, joined. -/
import Derived.Test.YtcjflgmcjfcodaaGreatM11
import Derived.Test.YtcjflgmcjfcodaaGreatM19
import Derived.BigRegion
import Derived.ChangeAlike
import Derived.RegionTactic
set_option maxRecDepth 100000
set_option maxHeartbeats 8000000
namespace Go.Proofs.Tryz end Go.Proofs.Tryz
namespace Go.Proofs.YtcjflgmcjfcodaaGreat
open Go.Proofs.Tryz
section
open Go.RowKit
namespace Esc
section
variable (w:World) (b:Nat) (T:TypeId) (pre post:List Value)
theorem fW (r : Rdr) (x : UInt8) (hf : r.Fits) (h : At.Is w b T pre r.enc post) :
  Calls prog 161 #[.pointer (some ⟨b,pre.length,none⟩),.int .u8 x.toNat] w fun e w'=>e = .returned (.bool (r.may x)) /\ w=w':=by
 have c4:=h.cell 4 _ rfl;have c6:=h.cell 6 _ rfl;clear h;obtain ⟨c,state,v,n,pair,er⟩:=r;have hs:state <= 2:=hf.state;clear hf;have e92:=Int64.kN x 92 92 rfl;have e117:=Int64.kN x 117 117 rfl;rcases (show state=0 \/ state=1 \/ state=2 by omega) with h0 | h0 | h0
 ·have HM:=hhh (show Rdr.may ⟨c,state,v,n,pair,er⟩ x=(x == 92) by simp [Rdr.may,h0])
  subst h0;go_enter func161,ntmps161;go_wp2;go_ret;exact ⟨by rw [HM.o];rfl,rfl⟩
 ·have HM:=hhh (show Rdr.may ⟨c,state,v,n,pair,er⟩ x=(x == 117) by simp [Rdr.may,h0])
  subst h0;go_enter func161,ntmps161;go_wp2;go_ret;exact ⟨by rw [HM.o];rfl,rfl⟩
 ·subst h0
  by_cases n0:n=0
  ·have HM:=hhh (show Rdr.may ⟨c,2,v,n,pair,er⟩ x=(hex x == 13) by simp [Rdr.may,n0])
   subst n0;go_enter func161,ntmps161;go_wp2_with (go_at_call 167;refine (lU x _).mono ?_;rintro e w' ⟨rfl,rfl⟩);go_ret;exact ⟨by rw [HM.o];rfl,rfl⟩
  ·by_cases n1:n=1
   ·have HM:=hhh (show Rdr.may ⟨c,2,v,n,pair,er⟩ x=decide (12 <= hex x) by simp [Rdr.may,n1])
    subst n1;go_enter func161,ntmps161;go_wp2_with (go_at_call 167;refine (lU x _).mono ?_;rintro e w' ⟨rfl,rfl⟩);go_ret;exact ⟨by rw [HM.o];rfl,rfl⟩
   ·have HM:=hhh (show Rdr.may ⟨c,2,v,n,pair,er⟩ x=decide (0 <= hex x) by simp [Rdr.may,n0,n1])
    have b0:((n:Int) == 0)=false:=by simp;omega
    have b1:((n:Int) == 1)=false:=by simp;omega
    clear n0 n1;go_enter func161,ntmps161;go_wp2_with (go_at_call 167;refine (lU x _).mono ?_;rintro e w' ⟨rfl,rfl⟩);go_ret;exact ⟨by rw [HM.o];rfl,rfl⟩
theorem dR (r : Rdr) (x : UInt8) (hf : r.Fits) (h : At.Is w b T pre r.enc post) :
  Calls prog 162 #[.pointer (some ⟨b,pre.length,none⟩),.int .u8 x.toNat] w fun e w' =>
   e = .returned (.tuple #[.string ⟨(r.plain x).2.1.toArray⟩,.int .i64 (r.plain x).2.2]) /\ At.Is w' b T pre (r.plain x).1.enc post /\ At.aV b w w':=by
 have e34:=Int64.kN x 34 34 rfl;have e92:=Int64.kN x 92 92 rfl;obtain ⟨c,state,v,n,pair,er⟩:=r;by_cases h1:x.toNat < 32 \/ x=34
 ·have HP:=hhh (show Rdr.plain ⟨c,state,v,n,pair,er⟩ x=(⟨c,state,v,n,pair,er⟩,[],2) by rw [Rdr.plain,ifp h1])
  have H:=hhh h;clear h hf;rcases (show x.toNat < 32 \/ (¬ x.toNat < 32 /\ x=34) from (Decidable.em _).imp id fun g=>⟨g,h1.resolve_left g⟩) with h2 | ⟨h2,h3⟩
  ·clear h1
   go_enter func162,ntmps162;go_wp2;go_ret2;exact ⟨by rw [HP.o];rfl,by rw [HP.o];exact H.o,At.aV.refl b w⟩
  ·have b34:(x == 34)=true:=by simp [h3]
   clear h1 h3;go_enter func162,ntmps162;go_wp2;go_ret2;exact ⟨by rw [HP.o];rfl,by rw [HP.o];exact H.o,At.aV.refl b w⟩
 ·have hx32:¬ x.toNat < 32:=fun e=>h1 (.inl e)
  have b34:(x == 34)=false:=by simpa using fun e=>h1 (.inr e)
  have HW:=hhh (At.Is.head (l3:=[.int .i64 state,.int .i64 v,.int .i64 n,.int .i64 pair,.int .i64 er]) h);have hl:c.lack <= 3:=hf.lack;clear h hf;have Hd:=hhh (show Rdr.plain ⟨c,state,v,n,pair,er⟩ x=_ by rw [Rdr.plain,ifn h1]);clear h1
  cases hok:(c.step x).2 with
  | false =>
   have HP:=hhh (show Rdr.plain ⟨c,state,v,n,pair,er⟩ x=(⟨(c.step x).1,state,v,n,pair,er⟩,[],9) by rw [Hd.o,ifp hok]);have Hok:=hhh hok;clear hok Hd;go_enter func162,ntmps162;go_wp2_with (fail);refine (kL w b T pre _ c x hl HW.o).mono ?_;rintro e w1 ⟨rfl,i1,o1⟩;rw [Hok.o];have I1:=hhh i1;clear i1;go_wp2;go_ret2;exact ⟨by rw [HP.o];rfl,by rw [HP.o];exact I1.o.join,o1⟩
  | true =>
   by_cases h92:x=92
   ·have HP:=hhh (show Rdr.plain ⟨c,state,v,n,pair,er⟩ x=(⟨(c.step x).1,1,v,n,pair,er⟩,[],0) by rw [Hd.o,ifn (by simp [hok]),ifp h92])
    have Hok:=hhh hok;have b92:(x == 92)=true:=by simp [h92]
    clear hok Hd h92;go_enter func162,ntmps162;go_wp2_with (fail);refine (kL w b T pre _ c x hl HW.o).mono ?_;rintro e w1 ⟨rfl,i1,o1⟩;rw [Hok.o];have I2:=hhh (i1.join.set 4 (.int .i64 1) (nlb rfl));have k4:=i1.join.cell 4 _ rfl;have g4:=i1.free (pre.length + 4);clear i1;go_wp2;go_ret2;exact ⟨by rw [HP.o];rfl,by rw [HP.o];exact I2.o,o1.set _ _⟩
   ·have HP:=hhh (show Rdr.plain ⟨c,state,v,n,pair,er⟩ x=(⟨(c.step x).1,state,v,n,pair,er⟩,[x],0) by rw [Hd.o,ifn (by simp [hok]),ifn h92])
    have Hok:=hhh hok;have b92:(x == 92)=false:=by simpa using h92
    clear hok Hd h92;go_enter func162,ntmps162;go_wp2_with (fail);refine (kL w b T pre _ c x hl HW.o).mono ?_;rintro e w1 ⟨rfl,i1,o1⟩;rw [Hok.o];have I1:=hhh i1;clear i1;have hcv:=Mem.sP w1 (x.toNat:Int) x rfl;go_wp2;go_ret2;exact ⟨by rw [HP.o];rfl,by rw [HP.o];exact (I1.o.alloc _).join,o1.alloc _⟩
end
end Esc
end
section
open Go.RowKit
namespace Esc
def lT (x:UInt8):Bool :=
 match short x with
 | none=>Lib.indexByte [34,92,47,98,102,110,114,116] x == -1
 | some y=>decide (0 <= Lib.indexByte [34,92,47,98,102,110,114,116] x) && decide (Lib.indexByte [34,92,47,98,102,110,114,116] x < 8) && ([34,92,47,8,12,10,13,9][(Lib.indexByte [34,92,47,98,102,110,114,116] x).toNat]? == some y)
theorem short_idx:∀ n:Fin 256,lT (UInt8.ofNat n.val)=true:=by decide +kernel
theorem qK (x:UInt8):lT x=true:=by
 have h1:=short_idx ⟨x.toNat,x.toNat_lt⟩;have e:UInt8.ofNat x.toNat=x:=by simp
 simpa only [e] using h1
theorem aCd (x:UInt8) (h:short x=none):Lib.indexByte [34,92,47,98,102,110,114,116] x = -1:=by
 have h1:=qK x;simp only [lT,h] at h1;exact beq_iff_eq.1 h1
theorem aAe (x y:UInt8) (h:short x=some y):∃ j:Nat,j < 8 /\ Lib.indexByte [34,92,47,98,102,110,114,116] x=(j:Int) /\ [34,92,47,8,12,10,13,9][j]? = some y:=by
 have h1:=qK x;simp only [lT,h,Bool.and_eq_true,decide_eq_true_eq,beq_iff_eq] at h1;obtain ⟨⟨h2,h3⟩,h4⟩:=h1;exact ⟨_,by omega,by omega,h4⟩
theorem aC2 (x : UInt8) (n : Int) (hn : Lib.indexByte [34, 92, 47, 98, 102, 110, 114, 116] x = n) (w : World) :
  Calls prog 159 #[.string ⟨#[34,92,47,98,102,110,114,116]⟩,.int .u8 x.toNat] w fun e w'=>e = .returned (.int .i64 n) /\ w=w':=by
 refine (Tryz.strings_IndexByte ⟨#[34,92,47,98,102,110,114,116]⟩ (x.toNat:Int) w).mono ?_;rintro e w' ⟨rfl,rfl⟩;refine ⟨?_,rfl⟩;rw [<- hn,Int.toNat_natCast,show x.toNat.toUInt8=x by simp]
def gU (x:Int):Bool:=if x < 0 \/ 1114111 < x \/ (55296 <= x /\ x <= 57343) then false else true
theorem jI (x : Int) (h1 : -1000000000 ≤ x) (h2 : x ≤ 1000000000) (w : World) :
  Calls prog 169 #[.int .i64 x] w fun e w'=>e = .returned (.tuple #[.string ⟨(rune x).toArray⟩,.bool (gU x)]) /\ w=w':=by
 rcases (show x < 0 \/ 1114111 < x \/ (0 <= x /\ x < 55296) \/ (55296 <= x /\ x <= 57343) \/ (57344 <= x /\ x <= 1114111) by omega) with h | h | ⟨h,h'⟩ | ⟨h,h'⟩ | ⟨h,h'⟩
 ·have hr:=hhh (show rune x=[] by rw [rune,ifp (by omega)])
  have hi:=hhh (show gU x=false by rw [gU,ifp (by omega)]);go_enter func169,ntmps169;go_wp2;go_ret2;exact ⟨by rw [hr.o,hi.o];rfl,rfl⟩
 ·have hr:=hhh (show rune x=[] by rw [rune,ifp (by omega)])
  have hi:=hhh (show gU x=false by rw [gU,ifp (by omega)]);go_enter func169,ntmps169;go_wp2;go_ret2;exact ⟨by rw [hr.o,hi.o];rfl,rfl⟩
 ·have hr:=hhh (show rune x=(Utf8.encode x).data.toList by rw [rune,ifn (by omega)])
  have hi:=hhh (show gU x=true by rw [gU,ifn (by omega)]);go_enter func169,ntmps169;go_wp2;go_ret2;exact ⟨by rw [hr.o,hi.o,Mem.mk_data];rfl,rfl⟩
 ·have hr:=hhh (show rune x=[] by rw [rune,ifp (by omega)])
  have hi:=hhh (show gU x=false by rw [gU,ifp (by omega)]);go_enter func169,ntmps169;go_wp2;go_ret2;exact ⟨by rw [hr.o,hi.o];rfl,rfl⟩
 ·have hr:=hhh (show rune x=(Utf8.encode x).data.toList by rw [rune,ifn (by omega)])
  have hi:=hhh (show gU x=true by rw [gU,ifn (by omega)]);go_enter func169,ntmps169;go_wp2;go_ret2;exact ⟨by rw [hr.o,hi.o,Mem.mk_data];rfl,rfl⟩
section
variable (w:World) (b:Nat) (T:TypeId) (pre post:List Value)
theorem hJ (r : Rdr) (x : UInt8) (h : At.Is w b T pre r.enc post) :
  Calls prog 163 #[.pointer (some ⟨b,pre.length,none⟩),.int .u8 x.toNat] w fun e w' =>
   e = .returned (.tuple #[.string ⟨(r.behind x).2.1.toArray⟩,.int .i64 (r.behind x).2.2]) /\ At.Is w' b T pre (r.behind x).1.enc post /\ At.aV b w w':=by
 have e117:=Int64.kN x 117 117 rfl;obtain ⟨c,state,v,n,pair,er⟩:=r;have k4:=h.cell 4 _ rfl;have k5:=h.cell 5 _ rfl;have k6:=h.cell 6 _ rfl;have g4:=h.free (pre.length + 4);have g5:=h.free (pre.length + 5);have g6:=h.free (pre.length + 6);have H:=hhh h;clear h;by_cases hu:x=117
 ·have HP:=hhh (show Rdr.behind ⟨c,state,v,n,pair,er⟩ x=(⟨c,2,0,0,pair,er⟩,[],0) by rw [Rdr.behind,ifp hu])
  have I2:=hhh (((H.o.set 4 (.int .i64 2) (nlb rfl)).set 5 (.int .i64 0) (nlb rfl)).set 6 (.int .i64 0) (nlb rfl));have bu:(x == 117)=true:=by simp [hu]
  clear hu;go_enter func163,ntmps163;go_wp2;go_ret2;exact ⟨by rw [HP.o];rfl,by rw [HP.o];exact I2.o,(((At.aV.refl b w).set _ _).set _ _).set _ _⟩
 ·have bu:(x == 117)=false:=by simpa using hu
  cases hs:short x with
  | none =>
   have HP:=hhh (show Rdr.behind ⟨c,state,v,n,pair,er⟩ x=(⟨c,state,v,n,pair,er⟩,[],2) by rw [Rdr.behind,ifn hu,hs]);have hi:=hhh (aCd x hs);clear hs hu;go_enter func163,ntmps163;go_wp2_with (fail);refine (aC2 x _ hi.o w).mono ?_;rintro e w' ⟨rfl,rfl⟩;go_wp2;go_ret2;exact ⟨by rw [HP.o];rfl,by rw [HP.o];exact H.o,At.aV.refl b w⟩
  | some y =>
   have HP:=hhh (show Rdr.behind ⟨c,state,v,n,pair,er⟩ x=(⟨c,0,v,n,pair,er⟩,[y],0) by rw [Rdr.behind,ifn hu,hs]);obtain ⟨j,hj,hi,hy⟩:=aAe x y hs;have HI:=hhh hi;have I2:=hhh (H.o.set 4 (.int .i64 0) (nlb rfl));clear hs hu hi;rcases (show j=0 \/ j=1 \/ j=2 \/ j=3 \/ j=4 \/ j=5 \/ j=6 \/ j=7 by omega) with rfl | rfl | rfl | rfl | rfl | rfl | rfl | rfl
   all_goals
    have hy2:=Option.some.inj hy;subst hy2;clear hy hj;go_enter func163,ntmps163;go_wp2_with (fail);refine (aC2 x _ HI.o w).mono ?_;rintro e w' ⟨rfl,rfl⟩;go_wp2;go_ret2;exact ⟨by rw [HP.o];rfl,by rw [HP.o];exact I2.o,(At.aV.refl b w).set _ _⟩
end
end Esc
end
section
open Go.RowKit
namespace Esc
section
variable (w:World) (b:Nat) (T:TypeId) (pre post:List Value)
theorem mU (x:UInt8) (d:Nat) (hd:hex x=(d:Int)):Hid (∀ w:World,Calls prog 167 #[.int .u8 x.toNat] w fun e w'=>e = .returned (.int .i64 (d:Int)) /\ w=w'):=by
 intro w;rw [<- hd];exact lU x w
theorem aBd (c : Chk) (state v n pair er d : Nat) (Y : Int) (x : UInt8) (hd : hex x = (d : Int)) (hd16 : d < 16) (hv : v < 65536) (hn : n + 1 < 4) (hY : Y = ((v * 16 + d : Nat) : Int))
  (h:At.Is w b T pre (Rdr.enc ⟨c,state,v,n,pair,er⟩) post) :
  Calls prog 164 #[.pointer (some ⟨b,pre.length,none⟩),.int .u8 x.toNat] w fun e w' =>
   e = .returned (.tuple #[.string ⟨#[]⟩,.int .i64 0]) /\ At.Is w' b T pre (c.enc ++ [.int .i64 state,.int .i64 Y,.int .i64 ((n:Int) + 1),.int .i64 pair,.int .i64 er]) post /\ At.aV b w w':=by
 have HH:=mU x d hd;have k4:=h.cell 4 _ rfl;have k5:=h.cell 5 _ rfl;have k6:=h.cell 6 _ rfl;have k7:=h.cell 7 _ rfl;have g4:=h.free (pre.length + 4);have g5:=h.free (pre.length + 5);have g6:=h.free (pre.length + 6);have g7:=h.free (pre.length + 7);have hor:=Int64.or4 v d (by omega) hd16;rw [<- hY] at hor;have hY0:0 <= Y:=by omega
 have hY1:Y < 1048592:=by omega
 have I:=hhh ((h.set 5 (.int .i64 Y) (nlb rfl)).set 6 (.int .i64 ((n:Int) + 1)) (nlb rfl));clear hY hd h;go_enter func164,ntmps164;go_wp2_with (go_at_call 167;refine (HH.out _).mono ?_;rintro e w' ⟨rfl,rfl⟩);go_region;go_wp2;go_ret2;exact ⟨rfl,I.o.drew,(((At.aV.refl b w).set _ _).set _ _).drew⟩
theorem aBx (c : Chk) (state v n pair er d : Nat) (Y : Int) (x : UInt8) (hd : hex x = (d : Int)) (hd16 : d < 16) (hv : v < 65536) (hn : 4 ≤ n + 1) (hn2 : n ≤ 4) (hY : Y = ((v * 16 + d : Nat) : Int)) (hp : 0 < pair) (hp2 : pair < 65536)
  (h:At.Is w b T pre (Rdr.enc ⟨c,state,v,n,pair,er⟩) post) :
  Calls prog 164 #[.pointer (some ⟨b,pre.length,none⟩),.int .u8 x.toNat] w fun e w' =>
   e = .returned (.tuple #[.string ⟨(rune (65536 + ((pair:Int) - 55296) * 1024 + Y - 56320)).toArray⟩,.int .i64 0]) /\ At.Is w' b T pre (c.enc ++ [.int .i64 0,.int .i64 Y,.int .i64 ((n:Int) + 1),.int .i64 0,.int .i64 er]) post /\ At.aV b w w':=by
 have HH:=mU x d hd;have k4:=h.cell 4 _ rfl;have k5:=h.cell 5 _ rfl;have k6:=h.cell 6 _ rfl;have k7:=h.cell 7 _ rfl;have g4:=h.free (pre.length + 4);have g5:=h.free (pre.length + 5);have g6:=h.free (pre.length + 6);have g7:=h.free (pre.length + 7);have hor:=Int64.or4 v d (by omega) hd16;rw [<- hY] at hor;have hY0:0 <= Y:=by omega
 have hY1:Y < 1048592:=by omega
 have I:=hhh ((((h.set 5 (.int .i64 Y) (nlb rfl)).set 6 (.int .i64 ((n:Int) + 1)) (nlb rfl)).set 4 (.int .i64 0) (nlb rfl)).set 7 (.int .i64 0) (nlb rfl));clear hY hd h;go_enter func164,ntmps164;go_wp2_with (go_at_call 167;refine (HH.out _).mono ?_;rintro e w' ⟨rfl,rfl⟩);go_region;go_wp2_with (go_at_call 169;refine (jI _ (by omega) (by omega) _).mono ?_;rintro e w' ⟨rfl,rfl⟩);go_ret2;exact ⟨rfl,I.o.drew,(((((At.aV.refl b w).set _ _).set _ _).set _ _).set _ _).drew⟩
theorem aEd (c : Chk) (state v n er d : Nat) (Y : Int) (x : UInt8) (hd : hex x = (d : Int)) (hd16 : d < 16) (hv : v < 65536) (hn : 4 ≤ n + 1) (hn2 : n ≤ 4) (hY : Y = ((v * 16 + d : Nat) : Int)) (h5 : 56320 ≤ Y) (h6 : Y < 57344)
  (h:At.Is w b T pre (Rdr.enc ⟨c,state,v,n,0,er⟩) post) :
  Calls prog 164 #[.pointer (some ⟨b,pre.length,none⟩),.int .u8 x.toNat] w fun e w' =>
   e = .returned (.tuple #[.string ⟨#[]⟩,.int .i64 9]) /\ At.Is w' b T pre (c.enc ++ [.int .i64 0,.int .i64 Y,.int .i64 ((n:Int) + 1),.int .i64 0,.int .i64 er]) post /\ At.aV b w w':=by
 have HH:=mU x d hd;have k4:=h.cell 4 _ rfl;have k5:=h.cell 5 _ rfl;have k6:=h.cell 6 _ rfl;have k7:=h.cell 7 _ rfl;have g4:=h.free (pre.length + 4);have g5:=h.free (pre.length + 5);have g6:=h.free (pre.length + 6);have g7:=h.free (pre.length + 7);have hor:=Int64.or4 v d (by omega) hd16;rw [<- hY] at hor;have hY0:0 <= Y:=by omega
 have hY1:Y < 1048592:=by omega
 have I:=hhh (((h.set 5 (.int .i64 Y) (nlb rfl)).set 6 (.int .i64 ((n:Int) + 1)) (nlb rfl)).set 4 (.int .i64 0) (nlb rfl));clear hY hd h;go_enter func164,ntmps164;go_wp2_with (go_at_call 167;refine (HH.out _).mono ?_;rintro e w' ⟨rfl,rfl⟩);go_region;go_wp2;go_ret2;exact ⟨rfl,I.o.drew,((((At.aV.refl b w).set _ _).set _ _).set _ _).drew⟩
theorem aA2 (c : Chk) (state v n er d : Nat) (Y : Int) (x : UInt8) (hd : hex x = (d : Int)) (hd16 : d < 16) (hv : v < 65536) (hn : 4 ≤ n + 1) (hn2 : n ≤ 4) (hY : Y = ((v * 16 + d : Nat) : Int)) (h5 : 55296 ≤ Y) (h6 : Y < 56320)
  (h:At.Is w b T pre (Rdr.enc ⟨c,state,v,n,0,er⟩) post) :
  Calls prog 164 #[.pointer (some ⟨b,pre.length,none⟩),.int .u8 x.toNat] w fun e w' =>
   e = .returned (.tuple #[.string ⟨#[]⟩,.int .i64 0]) /\ At.Is w' b T pre (c.enc ++ [.int .i64 0,.int .i64 Y,.int .i64 ((n:Int) + 1),.int .i64 Y,.int .i64 er]) post /\ At.aV b w w':=by
 have HH:=mU x d hd;have k4:=h.cell 4 _ rfl;have k5:=h.cell 5 _ rfl;have k6:=h.cell 6 _ rfl;have k7:=h.cell 7 _ rfl;have g4:=h.free (pre.length + 4);have g5:=h.free (pre.length + 5);have g6:=h.free (pre.length + 6);have g7:=h.free (pre.length + 7);have hor:=Int64.or4 v d (by omega) hd16;rw [<- hY] at hor;have hY0:0 <= Y:=by omega
 have hY1:Y < 1048592:=by omega
 have I:=hhh ((((h.set 5 (.int .i64 Y) (nlb rfl)).set 6 (.int .i64 ((n:Int) + 1)) (nlb rfl)).set 4 (.int .i64 0) (nlb rfl)).set 7 (.int .i64 Y) (nlb rfl));clear hY hd h;go_enter func164,ntmps164;go_wp2_with (go_at_call 167;refine (HH.out _).mono ?_;rintro e w' ⟨rfl,rfl⟩);go_region;go_wp2;go_ret2;exact ⟨rfl,I.o.drew,(((((At.aV.refl b w).set _ _).set _ _).set _ _).set _ _).drew⟩
theorem xY (c : Chk) (state v n er d : Nat) (Y : Int) (x : UInt8) (hd : hex x = (d : Int)) (hd16 : d < 16) (hv : v < 65536) (hn : 4 ≤ n + 1) (hn2 : n ≤ 4) (hY : Y = ((v * 16 + d : Nat) : Int)) (h5 : Y < 55296)
  (h:At.Is w b T pre (Rdr.enc ⟨c,state,v,n,0,er⟩) post) :
  Calls prog 164 #[.pointer (some ⟨b,pre.length,none⟩),.int .u8 x.toNat] w fun e w' =>
   e = .returned (.tuple #[.string ⟨(rune Y).toArray⟩,.int .i64 0]) /\ At.Is w' b T pre (c.enc ++ [.int .i64 0,.int .i64 Y,.int .i64 ((n:Int) + 1),.int .i64 0,.int .i64 er]) post /\ At.aV b w w':=by
 have HH:=mU x d hd;have k4:=h.cell 4 _ rfl;have k5:=h.cell 5 _ rfl;have k6:=h.cell 6 _ rfl;have k7:=h.cell 7 _ rfl;have g4:=h.free (pre.length + 4);have g5:=h.free (pre.length + 5);have g6:=h.free (pre.length + 6);have g7:=h.free (pre.length + 7);have hor:=Int64.or4 v d (by omega) hd16;rw [<- hY] at hor;have hY0:0 <= Y:=by omega
 have hY1:Y < 1048592:=by omega
 have I:=hhh (((h.set 5 (.int .i64 Y) (nlb rfl)).set 6 (.int .i64 ((n:Int) + 1)) (nlb rfl)).set 4 (.int .i64 0) (nlb rfl));clear hY hd h;go_enter func164,ntmps164;go_wp2_with (go_at_call 167;refine (HH.out _).mono ?_;rintro e w' ⟨rfl,rfl⟩);go_region;go_wp2_with (go_at_call 169;refine (jI _ (by omega) (by omega) _).mono ?_;rintro e w' ⟨rfl,rfl⟩);go_ret2;exact ⟨rfl,I.o.drew,((((At.aV.refl b w).set _ _).set _ _).set _ _).drew⟩
theorem wY (c : Chk) (state v n er d : Nat) (Y : Int) (x : UInt8) (hd : hex x = (d : Int)) (hd16 : d < 16) (hv : v < 65536) (hn : 4 ≤ n + 1) (hn2 : n ≤ 4) (hY : Y = ((v * 16 + d : Nat) : Int)) (h5 : 57344 ≤ Y)
  (h:At.Is w b T pre (Rdr.enc ⟨c,state,v,n,0,er⟩) post) :
  Calls prog 164 #[.pointer (some ⟨b,pre.length,none⟩),.int .u8 x.toNat] w fun e w' =>
   e = .returned (.tuple #[.string ⟨(rune Y).toArray⟩,.int .i64 0]) /\ At.Is w' b T pre (c.enc ++ [.int .i64 0,.int .i64 Y,.int .i64 ((n:Int) + 1),.int .i64 0,.int .i64 er]) post /\ At.aV b w w':=by
 have HH:=mU x d hd;have k4:=h.cell 4 _ rfl;have k5:=h.cell 5 _ rfl;have k6:=h.cell 6 _ rfl;have k7:=h.cell 7 _ rfl;have g4:=h.free (pre.length + 4);have g5:=h.free (pre.length + 5);have g6:=h.free (pre.length + 6);have g7:=h.free (pre.length + 7);have hor:=Int64.or4 v d (by omega) hd16;rw [<- hY] at hor;have hY0:0 <= Y:=by omega
 have hY1:Y < 1048592:=by omega
 have I:=hhh (((h.set 5 (.int .i64 Y) (nlb rfl)).set 6 (.int .i64 ((n:Int) + 1)) (nlb rfl)).set 4 (.int .i64 0) (nlb rfl));clear hY hd h;go_enter func164,ntmps164;go_wp2_with (go_at_call 167;refine (HH.out _).mono ?_;rintro e w' ⟨rfl,rfl⟩);go_region;go_wp2_with (go_at_call 169;refine (jI _ (by omega) (by omega) _).mono ?_;rintro e w' ⟨rfl,rfl⟩);go_ret2;exact ⟨rfl,I.o.drew,((((At.aV.refl b w).set _ _).set _ _).set _ _).drew⟩
theorem aBe (r : Rdr) (x : UInt8) (hx : hex x < 0) :
  Calls prog 164 #[.pointer (some ⟨b,pre.length,none⟩),.int .u8 x.toNat] w fun e w' =>
   e = .returned (.tuple #[.string ⟨(r.digit x).2.1.toArray⟩,.int .i64 (r.digit x).2.2]) /\ w=w':=by
 have HP:=hhh (show r.digit x=(r,[],2) by rw [Rdr.digit,ifp hx]);go_enter func164,ntmps164;go_wp2_with (go_at_call 167;refine (lU x _).mono ?_;rintro e w' ⟨rfl,rfl⟩);go_ret2;exact ⟨by rw [HP.o];rfl,rfl⟩
theorem tU (r : Rdr) (x : UInt8) (hf : r.Fits) (h : At.Is w b T pre r.enc post) :
  Calls prog 164 #[.pointer (some ⟨b,pre.length,none⟩),.int .u8 x.toNat] w fun e w' =>
   e = .returned (.tuple #[.string ⟨(r.digit x).2.1.toArray⟩,.int .i64 (r.digit x).2.2]) /\ At.Is w' b T pre (r.digit x).1.enc post /\ At.aV b w w':=by
 have hr:=aEv x;have hv:r.r < 65536:=Nat.lt_of_lt_of_le hf.val (Nat.pow_le_pow_right (n:=16) (by decide) hf.n);have hn:r.n <= 4:=hf.n;have hp:r.pair < 65536:=hf.pair;obtain ⟨c,state,v,n,pair,er⟩:=r;simp only at hv hn hp;by_cases hx:hex x < 0
 ·refine (aBe w b pre ⟨c,state,v,n,pair,er⟩ x hx).mono ?_
  rintro e w' ⟨rfl,rfl⟩;refine ⟨rfl,?_,At.aV.refl b _⟩;rw [Rdr.digit,ifp hx];exact h
 ·obtain ⟨d,hd⟩:=Int.eq_ofNat_of_zero_le (show 0 <= hex x by omega)
  have hd16:d < 16:=by omega
  have sd:(hex x).toNat=d:=by rw [hd];rfl
  simp only [Rdr.digit,ifn hx,sd];by_cases h4:n + 1 < 4
  ·rw [ifp h4]
   exact aBd w b T pre post c state v n pair er d ((v * 16 + d:Nat):Int) x hd hd16 hv h4 rfl h
  ·rw [ifn h4]
   by_cases hpp:0 < pair
   ·rw [ifp hpp]
    exact aBx w b T pre post c state v n pair er d ((v * 16 + d:Nat):Int) x hd hd16 hv (by omega) hn rfl hpp hp h
   ·rw [ifn hpp]
    obtain rfl:pair=0:=by omega
    by_cases h5:56320 <= v * 16 + d /\ v * 16 + d < 57344
    ·rw [ifp h5]
     exact aEd w b T pre post c state v n er d ((v * 16 + d:Nat):Int) x hd hd16 hv (by omega) hn rfl (by omega) (by omega) h
    ·rw [ifn h5]
     by_cases h6:55296 <= v * 16 + d /\ v * 16 + d < 56320
     ·rw [ifp h6]
      exact aA2 w b T pre post c state v n er d ((v * 16 + d:Nat):Int) x hd hd16 hv (by omega) hn rfl (by omega) (by omega) h
     ·rw [ifn h6]
      by_cases h7:v * 16 + d < 55296
      ·exact xY w b T pre post c state v n er d ((v * 16 + d:Nat):Int) x hd hd16 hv (by omega) hn rfl (by omega) h
      ·exact wY w b T pre post c state v n er d ((v * 16 + d:Nat):Int) x hd hd16 hv (by omega) hn rfl (by omega) h
end
end Esc
end
section
open Go.RowKit
namespace Esc
def mD (o:Rdr × List UInt8 × Nat):Ending:=.returned (.tuple #[.string ⟨o.2.1.toArray⟩,.int .i64 o.2.2])
section
variable (w:World) (b:Nat) (T:TypeId) (pre post:List Value)
theorem rB (c : Chk) (v n pair : Nat) (x : UInt8) (hf : Rdr.Fits ⟨c, 0, v, n, pair, 0⟩) (h : At.Is w b T pre (Rdr.enc ⟨c, 0, v, n, pair, 0⟩) post) (hp : pair = 0 ∨ (0 < pair ∧ Rdr.may ⟨c, 0, v, n, pair, 0⟩ x = true)) :
  Calls prog 157 #[.pointer (some ⟨b,pre.length,none⟩),.int .u8 x.toNat] w fun e w' =>
   e=mD (dO (Rdr.plain ⟨c,0,v,n,pair,0⟩ x)) /\ At.Is w' b T pre (dO (Rdr.plain ⟨c,0,v,n,pair,0⟩ x)).1.enc post /\ At.aV b w w':=by
 have k4:=h.cell 4 _ rfl;have k7:=h.cell 7 _ rfl;have k8:=h.cell 8 _ rfl;have H:=hhh h;have HF:=hhh hf;clear h hf;rcases hp with rfl | ⟨hp,hm⟩
 ·go_enter func157,ntmps157
  go_wp2_with (fail);refine (dR w b T pre post _ x HF.o H.o).mono ?_;rintro e w1 ⟨rfl,i1,o1⟩;have g8:=i1.free (pre.length + 8);have k8':=i1.cell 8 _ rfl;have I2:=hhh (i1.set 8 (.int .i64 (Rdr.plain ⟨c,0,v,n,0,0⟩ x).2.2) (nlb rfl));clear i1;go_wp2;go_quiet (fail);go_wp2;go_ret2;exact ⟨rfl,I2.o.drewN _,(o1.set _ _).drewN _⟩
 ·have HM:=hhh hm
  clear hm;go_enter func157,ntmps157;go_wp2_with (fail);refine (fW w b T pre post _ x HF.o H.o).mono ?_;rintro e w' ⟨rfl,rfl⟩;rw [HM.o];go_wp2_with (fail);refine (dR w b T pre post _ x HF.o H.o).mono ?_;rintro e w1 ⟨rfl,i1,o1⟩;have g8:=i1.free (pre.length + 8);have k8':=i1.cell 8 _ rfl;have I2:=hhh (i1.set 8 (.int .i64 (Rdr.plain ⟨c,0,v,n,pair,0⟩ x).2.2) (nlb rfl));clear i1;go_wp2;go_quiet (fail);go_wp2;go_ret2;exact ⟨rfl,I2.o.drewN _,(o1.set _ _).drewN _⟩
theorem oK (c : Chk) (v n pair : Nat) (x : UInt8) (hf : Rdr.Fits ⟨c, 1, v, n, pair, 0⟩) (h : At.Is w b T pre (Rdr.enc ⟨c, 1, v, n, pair, 0⟩) post) (hp : pair = 0 ∨ (0 < pair ∧ Rdr.may ⟨c, 1, v, n, pair, 0⟩ x = true)) :
  Calls prog 157 #[.pointer (some ⟨b,pre.length,none⟩),.int .u8 x.toNat] w fun e w' =>
   e=mD (dO (Rdr.behind ⟨c,1,v,n,pair,0⟩ x)) /\ At.Is w' b T pre (dO (Rdr.behind ⟨c,1,v,n,pair,0⟩ x)).1.enc post /\ At.aV b w w':=by
 have k4:=h.cell 4 _ rfl;have k7:=h.cell 7 _ rfl;have k8:=h.cell 8 _ rfl;have H:=hhh h;have HF:=hhh hf;clear h hf;rcases hp with rfl | ⟨hp,hm⟩
 ·go_enter func157,ntmps157
  go_wp2_with (fail);refine (hJ w b T pre post _ x H.o).mono ?_;rintro e w1 ⟨rfl,i1,o1⟩;have g8:=i1.free (pre.length + 8);have k8':=i1.cell 8 _ rfl;have I2:=hhh (i1.set 8 (.int .i64 (Rdr.behind ⟨c,1,v,n,0,0⟩ x).2.2) (nlb rfl));clear i1;go_wp2;go_quiet (fail);go_wp2;go_ret2;exact ⟨rfl,I2.o.drewN _,(o1.set _ _).drewN _⟩
 ·have HM:=hhh hm
  clear hm;go_enter func157,ntmps157;go_wp2_with (fail);refine (fW w b T pre post _ x HF.o H.o).mono ?_;rintro e w' ⟨rfl,rfl⟩;rw [HM.o];go_wp2_with (fail);refine (hJ w b T pre post _ x H.o).mono ?_;rintro e w1 ⟨rfl,i1,o1⟩;have g8:=i1.free (pre.length + 8);have k8':=i1.cell 8 _ rfl;have I2:=hhh (i1.set 8 (.int .i64 (Rdr.behind ⟨c,1,v,n,pair,0⟩ x).2.2) (nlb rfl));clear i1;go_wp2;go_quiet (fail);go_wp2;go_ret2;exact ⟨rfl,I2.o.drewN _,(o1.set _ _).drewN _⟩
theorem rK (c : Chk) (v n pair : Nat) (x : UInt8) (hf : Rdr.Fits ⟨c, 2, v, n, pair, 0⟩) (h : At.Is w b T pre (Rdr.enc ⟨c, 2, v, n, pair, 0⟩) post) (hp : pair = 0 ∨ (0 < pair ∧ Rdr.may ⟨c, 2, v, n, pair, 0⟩ x = true)) :
  Calls prog 157 #[.pointer (some ⟨b,pre.length,none⟩),.int .u8 x.toNat] w fun e w' =>
   e=mD (dO (Rdr.digit ⟨c,2,v,n,pair,0⟩ x)) /\ At.Is w' b T pre (dO (Rdr.digit ⟨c,2,v,n,pair,0⟩ x)).1.enc post /\ At.aV b w w':=by
 have k4:=h.cell 4 _ rfl;have k7:=h.cell 7 _ rfl;have k8:=h.cell 8 _ rfl;have H:=hhh h;have HF:=hhh hf;clear h hf;rcases hp with rfl | ⟨hp,hm⟩
 ·go_enter func157,ntmps157
  go_wp2_with (fail);refine (tU w b T pre post _ x HF.o H.o).mono ?_;rintro e w1 ⟨rfl,i1,o1⟩;have g8:=i1.free (pre.length + 8);have k8':=i1.cell 8 _ rfl;have I2:=hhh (i1.set 8 (.int .i64 (Rdr.digit ⟨c,2,v,n,0,0⟩ x).2.2) (nlb rfl));clear i1;go_wp2;go_quiet (fail);go_wp2;go_ret2;exact ⟨rfl,I2.o.drewN _,(o1.set _ _).drewN _⟩
 ·have HM:=hhh hm
  clear hm;go_enter func157,ntmps157;go_wp2_with (fail);refine (fW w b T pre post _ x HF.o H.o).mono ?_;rintro e w' ⟨rfl,rfl⟩;rw [HM.o];go_wp2_with (fail);refine (tU w b T pre post _ x HF.o H.o).mono ?_;rintro e w1 ⟨rfl,i1,o1⟩;have g8:=i1.free (pre.length + 8);have k8':=i1.cell 8 _ rfl;have I2:=hhh (i1.set 8 (.int .i64 (Rdr.digit ⟨c,2,v,n,pair,0⟩ x).2.2) (nlb rfl));clear i1;go_wp2;go_quiet (fail);go_wp2;go_ret2;exact ⟨rfl,I2.o.drewN _,(o1.set _ _).drewN _⟩
theorem dN (r : Rdr) (x : UInt8) (hf : r.Fits) (h : At.Is w b T pre r.enc post) :
  Calls prog 157 #[.pointer (some ⟨b,pre.length,none⟩),.int .u8 x.toNat] w fun e w' =>
   e=mD (r.step x) /\ At.Is w' b T pre (r.step x).1.enc post /\ At.aV b w w':=by
 obtain ⟨c,state,v,n,pair,er⟩:=r;have hs:state <= 2:=hf.state;by_cases he:er=0
 ·subst he
  by_cases hp:0 < pair /\ Rdr.may ⟨c,state,v,n,pair,0⟩ x=false
  ·have HS:=hhh (show Rdr.step ⟨c,state,v,n,pair,0⟩ x=(⟨c,state,v,n,pair,9⟩,[],9) by rw [Rdr.step,ifn (by simp),ifp hp])
   obtain ⟨hp,hm⟩:=hp;have k7:=h.cell 7 _ rfl;have k8:=h.cell 8 _ rfl;have g8:=h.free (pre.length + 8);have H:=hhh h;have HF:=hhh hf;have HM:=hhh hm;have I2:=hhh (h.set 8 (.int .i64 9) (nlb rfl));clear h hf hm;go_enter func157,ntmps157;go_wp2_with (fail);refine (fW w b T pre post _ x HF.o H.o).mono ?_;rintro e w' ⟨rfl,rfl⟩;rw [HM.o];go_wp2;go_quiet (fail);go_wp2;go_ret2;exact ⟨by rw [HS.o];rfl,by rw [HS.o];exact I2.o.drewN _,((At.aV.refl b w).set _ _).drewN _⟩
  ·have hp2:pair=0 \/ (0 < pair /\ Rdr.may ⟨c,state,v,n,pair,0⟩ x=true):=by
    by_cases h0:pair=0
    ·exact .inl h0
    ·refine .inr ⟨by omega,?_⟩
     cases hm:Rdr.may ⟨c,state,v,n,pair,0⟩ x with
     | true=>rfl
     | false=>exact absurd ⟨by omega,hm⟩ hp
   have hS:Rdr.step ⟨c,state,v,n,pair,0⟩ x=if state=0 then dO (Rdr.plain ⟨c,state,v,n,pair,0⟩ x) else if state=1 then dO (Rdr.behind ⟨c,state,v,n,pair,0⟩ x) else dO (Rdr.digit ⟨c,state,v,n,pair,0⟩ x):=by
    rw [Rdr.step,ifn (by simp),ifn hp]
   rw [hS];rcases (show state=0 \/ state=1 \/ state=2 by omega) with rfl | rfl | rfl
   ·exact rB w b T pre post c v n pair x hf h hp2
   ·exact oK w b T pre post c v n pair x hf h hp2
   ·exact rK w b T pre post c v n pair x hf h hp2
 ·have HS:=hhh (show Rdr.step ⟨c,state,v,n,pair,er⟩ x=(⟨c,state,v,n,pair,er⟩,[],er) by rw [Rdr.step,ifp he])
  have k8:=h.cell 8 _ rfl;have he2:((er:Int) != 0)=true:=by simp;omega
  have H:=hhh h;clear h hf he;go_enter func157,ntmps157;go_wp2;go_quiet (fail);go_wp2;go_ret2;exact ⟨by rw [HS.o];rfl,by rw [HS.o];exact H.o.drewN _,(At.aV.refl b w).drewN _⟩
theorem uR (r : Rdr) (h : At.Is w b T pre r.enc post) :
  Calls prog 156 #[.pointer (some ⟨b,pre.length,none⟩)] w fun e w'=>e = .returned (.bool r.whole) /\ w=w':=by
 obtain ⟨c,state,v,n,pair,er⟩:=r;have k4:=h.cell 4 _ rfl;have k7:=h.cell 7 _ rfl;have k8:=h.cell 8 _ rfl;have HW:=hhh (At.Is.head (l3:=[.int .i64 state,.int .i64 v,.int .i64 n,.int .i64 pair,.int .i64 er]) h);clear h;by_cases h1:er=0
 ·by_cases h2:state=0
  ·by_cases h3:pair=0
   ·subst h1 h2 h3
    have HS:=hhh (show Rdr.whole ⟨c,0,v,n,0,0⟩=c.whole by simp [Rdr.whole]);go_enter func156,ntmps156;go_wp2_with (fail);refine (qB w b T pre _ c HW.o).mono ?_;rintro e w' ⟨rfl,rfl⟩;go_wp2;go_ret;exact ⟨by rw [HS.o];rfl,rfl⟩
   ·subst h1 h2
    have HS:=hhh (show Rdr.whole ⟨c,0,v,n,pair,0⟩=false by simp [Rdr.whole,h3]);have b3:((pair:Int) == 0)=false:=by simp;omega
    clear h3;go_enter func156,ntmps156;go_wp2;go_ret;exact ⟨by rw [HS.o];rfl,rfl⟩
  ·subst h1
   have HS:=hhh (show Rdr.whole ⟨c,state,v,n,pair,0⟩=false by simp [Rdr.whole,h2]);have b3:((state:Int) == 0)=false:=by simp;omega
   clear h2;go_enter func156,ntmps156;go_wp2;go_ret;exact ⟨by rw [HS.o];rfl,rfl⟩
 ·have HS:=hhh (show Rdr.whole ⟨c,state,v,n,pair,er⟩=false by simp [Rdr.whole,h1])
  have b3:((er:Int) == 0)=false:=by simp;omega
  clear h1;go_enter func156,ntmps156;go_wp2;go_ret;exact ⟨by rw [HS.o];rfl,rfl⟩
end
end Esc
end
end Go.Proofs.YtcjflgmcjfcodaaGreat
