/- Texts of the walk, joined. -/
import Derived.Test.YtcjflgmcjfcodaaGreatM15
import Derived.Test.YtcjflgmcjfcodaaGreatM22
import Derived.Test.YtcjflgmcjfcodaaGreatM23
set_option maxRecDepth 100000
set_option maxHeartbeats 8000000
namespace Go.Proofs.Tryz end Go.Proofs.Tryz
namespace Go.Proofs.YtcjflgmcjfcodaaGreat
open Go.Proofs.Tryz
section
open Go.RowKit
open Json (Part)
namespace Pip
section
variable (w:World) (b:Nat) (T:TypeId) (pre post:List Value)
theorem aBw (n : Hd) (h : At.Is w b T pre n.enc post) (he : n.e = 0) :
  Calls prog 186 #[.pointer (some ⟨b,pre.length,none⟩)] w fun e w'=>e = .returned (.int .i64 (n.major:Int)) /\ w=w':=by
 have c3:=h.cell 3 _ rfl;have c6:=h.cell 6 _ rfl;rw [he] at c6;clear h he;go_enter func186,ntmps186;go_wp2;go_ret;exact ⟨rfl,rfl⟩
theorem aAk (n : Hd) (h : At.Is w b T pre n.enc post) (he : n.e = 0) (hf : n.fin = true) :
  Calls prog 187 #[.pointer (some ⟨b,pre.length,none⟩)] w fun e w'=>e = .returned (.int .u64 (n.v:Int)) /\ w=w':=by
 have c1:=h.cell 1 _ rfl;have c5:=h.cell 5 _ rfl;have c6:=h.cell 6 _ rfl;rw [he] at c6;rw [hf] at c1;clear h he hf;go_enter func187,ntmps187;go_wp2;go_ret;exact ⟨rfl,rfl⟩
theorem aEl (n : Hd) (h : At.Is w b T pre n.enc post) (he : n.e = 0) :
  Calls prog 188 #[.pointer (some ⟨b,pre.length,none⟩)] w fun e w'=>e = .returned (.bool n.opened) /\ w=w':=by
 have c2:=h.cell 2 _ rfl;have c6:=h.cell 6 _ rfl;rw [he] at c6;clear h he;go_enter func188,ntmps188;go_wp2;go_ret;exact ⟨rfl,rfl⟩
theorem aAu (n : Hd) (h : At.Is w b T pre n.enc post) :
  Calls prog 189 #[.pointer (some ⟨b,pre.length,none⟩)] w fun e w'=>e = .returned (.tuple #[]) /\ At.Is w' b T pre Hd.new.enc post /\ At.aV b w w':=by
 have c0:=h.cell0 _ rfl;have c1:=h.cell 1 _ rfl;have c2:=h.cell 2 _ rfl;have c3:=h.cell 3 _ rfl;have c4:=h.cell 4 _ rfl;have c5:=h.cell 5 _ rfl;have c6:=h.cell 6 _ rfl;have f0:=h.free pre.length;have f1:=h.free (pre.length + 1);have f2:=h.free (pre.length + 2);have f3:=h.free (pre.length + 3);have f4:=h.free (pre.length + 4);have f5:=h.free (pre.length + 5);have f6:=h.free (pre.length + 6);have HI:=hhh h;clear h;go_enter func189,ntmps189;go_wp2;go_end0
 exact ⟨rfl,((((((HI.o.lG (.bool false) (nlb rfl)).set 1 (.bool false) (nlb rfl)).set 2 (.bool false) (nlb rfl)).set 3 (.int .i64 0) (nlb rfl)).set 4 (.int .i64 0) (nlb rfl)).set 5 (.int .u64 0) (nlb rfl)).set 6 (.int .i64 0) (nlb rfl),
  ((((((((At.aV.refl b w).set _ _).set _ _).set _ _).set _ _).set _ _).set _ _).set _ _)⟩
end
def Cin.Is (p:Cin) (b:Nat) (h:Own.Heap):Prop:=p.c.Is 194 b (p.h.enc ++ [.bool p.begun]) h
def fE (o:Cin × List Part) (b:Nat) (h:Own.Heap) (w:World) (e:Ending) (w':World):Prop :=
 ∃ v hv h',e = .returned v /\ Own.Slc 20 (aF o.2) v hv /\ o.1.Is b h' /\ Own.aA h (hv ++ h') w w'
def wA (o:Cin × List Part × Nat) (b:Nat) (h:Own.Heap) (w:World) (e:Ending) (w':World):Prop :=
 ∃ v hv h',e = .returned (.tuple #[v,.int .i64 (o.2.2:Int)]) /\ Own.Slc 20 (aF o.2.1) v hv /\ o.1.Is b h' /\ Own.aA h (hv ++ h') w w'
section
variable {p:Cin} {b:Nat} {h:Own.Heap} {w:World}
theorem Cin.Is.at_ (hi : p.Is b h) (hw : Own.Has w h) : ∃ pre : List Value, pre.length = 12 ∧ At.Is w b 194 pre p.h.enc [.bool p.begun] ∧
  (∀ (n:Hd) (v:World),At.Is v b 194 pre n.enc [.bool p.begun] -> At.aV b w v -> ∃ h',(Cin.mk p.c n p.begun).Is b h' /\ Own.aA h h' w v):=by
 obtain ⟨ov,sv,ho,hs,h1,h2,rfl⟩:=hi;have e:∀ n:Hd,p.c.cells ov sv ++ (n.enc ++ [Value.bool p.begun])=p.c.cells ov sv ++ n.enc ++ [.bool p.begun]:=fun n=>(List.append_assoc ..).symm
 rw [e] at hw |-;refine ⟨p.c.cells ov sv,rfl,hw.is3 mcs,fun n v h3 h4=>⟨_,⟨ov,sv,ho,hs,h1,h2,rfl⟩,?_⟩⟩;show Own.aA _ (Own.row b _ (p.c.cells ov sv ++ (n.enc ++ [Value.bool p.begun])) :: (ho ++ hs)) w v;rw [e];exact Own.aA.only hw h3 h4
theorem Cin.Is.uI (hi : p.Is b h) (hw : Own.Has w h) (hf : p.h.Fits) (x : UInt8) :
  Calls prog 185 #[.pointer (some ⟨b,12,none⟩),.int .u8 (x.toNat:Int)] w fun e w'=>e = .returned (.tuple #[.bool (p.h.step x).2.1,.int .i64 ((p.h.step x).2.2:Int)]) /\
   ∃ h',(Cin.mk p.c (p.h.step x).1 p.begun).Is b h' /\ Own.aA h h' w w':=by
 obtain ⟨pre,hl,h1,h2⟩:=hi.at_ hw;have:=aFq w b _ pre _ p.h hf x h1;rw [hl] at this;refine this.mono ?_;rintro e w' ⟨rfl,h3,h4⟩;exact ⟨rfl,h2 _ _ h3 h4⟩
theorem Cin.Is.major (hi : p.Is b h) (hw : Own.Has w h) (he : p.h.e = 0) :
  Calls prog 186 #[.pointer (some ⟨b,12,none⟩)] w fun e w'=>e = .returned (.int .i64 (p.h.major:Int)) /\ w=w':=by
 obtain ⟨pre,hl,h1,-⟩:=hi.at_ hw;have:=aBw w b _ pre _ p.h h1 he
 rwa [hl] at this
theorem Cin.Is.value (hi : p.Is b h) (hw : Own.Has w h) (he : p.h.e = 0) (hf : p.h.fin = true) :
  Calls prog 187 #[.pointer (some ⟨b,12,none⟩)] w fun e w'=>e = .returned (.int .u64 (p.h.v:Int)) /\ w=w':=by
 obtain ⟨pre,hl,h1,-⟩:=hi.at_ hw;have:=aAk w b _ pre _ p.h h1 he hf
 rwa [hl] at this
theorem Cin.Is.open_ (hi : p.Is b h) (hw : Own.Has w h) (he : p.h.e = 0) :
  Calls prog 188 #[.pointer (some ⟨b,12,none⟩)] w fun e w'=>e = .returned (.bool p.h.opened) /\ w=w':=by
 obtain ⟨pre,hl,h1,-⟩:=hi.at_ hw;have:=aEl w b _ pre _ p.h h1 he
 rwa [hl] at this
theorem Cin.Is.clear (hi : p.Is b h) (hw : Own.Has w h) :
  Calls prog 189 #[.pointer (some ⟨b,12,none⟩)] w fun e w'=>e = .returned (.tuple #[]) /\ ∃ h',(Cin.mk p.c Hd.new p.begun).Is b h' /\ Own.aA h h' w w':=by
 obtain ⟨pre,hl,h1,h2⟩:=hi.at_ hw;have:=aAu w b _ pre _ p.h h1;rw [hl] at this;refine this.mono ?_;rintro e w' ⟨rfl,h3,h4⟩;exact ⟨rfl,h2 _ _ h3 h4⟩
theorem Cin.Is.uO (hi : p.Is b h) {a0 : Own.Heap} {u : World} (t : Own.aA a0 h u w) (y : Bool) :
  w.cell? ⟨b,19,none⟩=some (.bool p.begun) /\ w.frozen? ⟨b,19,none⟩=false /\ ∃ h',(Cin.mk p.c p.h y).Is b h' /\ Own.aA a0 h' u (w.setCell ⟨b,19,none⟩ (.bool y)) :=
 ⟨hi.gO t.has 7 _ rfl,hi.free t.has 19,hi.aH1 t 7 (.bool y) (nlb rfl)⟩
end
end Pip
end
section
open Go.RowKit
namespace Pip
section
variable {p:Cin} {b:Nat} {h:Own.Heap} {w:World}
theorem aCc (hi : p.Is b h) (hw : Own.Has w h) :
  Calls prog 87 #[.pointer (some ⟨b,0,none⟩)] w fun e w'=>e = .returned (.int .i64 (p.c.over:Int)) /\ w=w':=by
 have HO:=hhh (tG hi hw);clear hi hw;go_enter func87,ntmps87;go_wp2_with (fail);refine HO.o.mono ?_;rintro e w2 ⟨rfl,rfl⟩;go_wp2;go_ret;exact ⟨rfl,rfl⟩
end
theorem aAh (d : Nat) (h1 : 1 ≤ d) (h16 : d ≤ 16) (w : World) :
  Calls prog 91 #[.int .i64 (d:Int)] w fun e w'=>∃ b h,e = .returned (.pointer (some ⟨b,0,none⟩)) /\ (Cin.new d).Is b h /\ Own.aA [] h w w':=by
 have hI:=hhh (show (Cin.new d).Is w.heap.size (Own.row w.heap.size 194 ((Cin.new d).c.cells (.slice none 0 0) (.slice none 0 0) ++ (Hd.new.enc ++ [.bool false])) :: []) from
  ⟨_,_,[],[],.bare none rfl rfl,.bare none rfl,rfl⟩)
 have hT:=hhh ((Own.aA.refl (Own.Has.nil w)).alloc (.cells ((Cin.new d).c.cells (.slice none 0 0) (.slice none 0 0) ++ (Hd.new.enc ++ [Value.bool false])).toArray 194));have l1:¬ (d:Int) < 1:=by omega
 have l2:¬ 16 < (d:Int):=by omega
 have l3:(d:Int) <= 16:=by omega
 clear h1 h16;go_enter func91,ntmps91;go_wp2;go_ret;exact ⟨_,rfl,_,hI.o,hT.o⟩
end Pip
end
section
open Go.RowKit
open Json (Part)
namespace Pip
def Pin.post (p:Pin):List Value:=[.int .i64 (p.kind:Int),.int .i64 (p.lack:Int),.int .i64 (p.all:Int),.int .u64 (p.v:Int)]
def Pin.Is (p:Pin) (b:Nat) (h:Own.Heap):Prop:=p.c.Is 196 b p.post h
def bH (o:Pin × List Part) (b:Nat) (h:Own.Heap) (w:World) (e:Ending) (w':World):Prop :=
 ∃ v hv h',e = .returned v /\ Own.Slc 20 (aF o.2) v hv /\ o.1.Is b h' /\ Own.aA h (hv ++ h') w w'
def xU (o:Pin × List Part × Nat) (b:Nat) (h:Own.Heap) (w:World) (e:Ending) (w':World):Prop :=
 ∃ v hv h',e = .returned (.tuple #[v,.int .i64 (o.2.2:Int)]) /\ Own.Slc 20 (aF o.2.1) v hv /\ o.1.Is b h' /\ Own.aA h (hv ++ h') w w'
section
variable {p:Pin} {b:Nat} {h:Own.Heap} {w:World}
theorem lN {n : Nat} (hi : p.Is b h) (hw : Own.Has w h) (hf : p.c.Fits n) (hn : n ≤ 1000000) (pairs : Bool) (m : Nat) :
  Calls prog 204 #[.pointer (some ⟨b,0,none⟩),.bool pairs,.int .u64 (m:Int)] w (bH (p.count pairs m) b h w):=by
 have HF:=hhh (cZ hi hw 7);have HB:=hhh (qE hi hw hf hn pairs (m:Int));by_cases hv:1000000 < m
 ·have HP:=hhh (show p.count pairs m=p.on (p.c.fail 7) from ifp hv)
  have hvI:(1000000:Int) < (m:Int):=by omega
  clear hi hw hf hv HB;go_enter func204,ntmps204;go_wp2_with (fail);refine HF.o.mono ?_;rintro e w4 ⟨v,hv,h4,rfl,hs,i4,t4⟩;have HI4:=hhh i4;have HT4:=hhh t4;have HS4:=hhh hs;clear i4 t4 hs;go_wp2;go_ret;rw [HP.o];exact ⟨_,hv,h4,rfl,HS4.o,HI4.o,HT4.o⟩
 ·have HP:=hhh (show p.count pairs m=p.on (p.c.begin pairs (m:Int)) from ifn hv)
  have hvI:¬ (1000000:Int) < (m:Int):=by omega
  have hvw:IntKind.i64.wrap (m:Int)=(m:Int):=by rw [IntKind.wrap_i64];omega
  clear hi hw hf hv HF;go_enter func204,ntmps204;go_wp2_with (fail);refine HB.o.mono ?_;rintro e w4 ⟨v,hv,h4,rfl,hs,i4,t4⟩;have HI4:=hhh i4;have HT4:=hhh t4;have HS4:=hhh hs;clear i4 t4 hs;go_wp2;go_ret;rw [HP.o];exact ⟨_,hv,h4,rfl,HS4.o,HI4.o,HT4.o⟩
theorem Pin.Is.aM4 (hi : p.Is b h) {a0 : Own.Heap} {u : World} (t : Own.aA a0 h u w) (k l a v : Nat) :
  ∃ h',(Pin.mk p.c k l a v).Is b h' /\ Own.aA a0 h' u ((((w.setCell ⟨b,12,none⟩ (.int .i64 (k:Int))).setCell ⟨b,13,none⟩ (.int .i64 (l:Int))).setCell ⟨b,14,none⟩ (.int .i64 (a:Int))).setCell ⟨b,15,none⟩ (.int .u64 (v:Int))):=by
 obtain ⟨ov,sv,ho,hs,h1,h2,rfl⟩:=hi;exact ⟨_,⟨ov,sv,ho,hs,h1,h2,rfl⟩,(((t.put 12 (.int .i64 (k:Int)) _ rfl).put 13 (.int .i64 (l:Int)) _ rfl).put 14 (.int .i64 (a:Int)) _ rfl).put 15 (.int .u64 (v:Int)) _ rfl⟩
theorem Pin.Is.aB9 (hi:p.Is b h) (hw:Own.Has w h):w.cell? ⟨b,12,none⟩=some (.int .i64 (p.kind:Int)) /\ w.cell? ⟨b,13,none⟩=some (.int .i64 (p.lack:Int)) /\ w.cell? ⟨b,14,none⟩=some (.int .i64 (p.all:Int)) /\ w.cell? ⟨b,15,none⟩=some (.int .u64 (p.v:Int)) :=
 ⟨Core.Is.gO hi hw 0 _ rfl,Core.Is.gO hi hw 1 _ rfl,Core.Is.gO hi hw 2 _ rfl,Core.Is.gO hi hw 3 _ rfl⟩
theorem vP (hi : p.Is b h) (hw : Own.Has w h) (k m : Nat) :
  Calls prog 208 #[.pointer (some ⟨b,0,none⟩),.int .i64 (k:Int),.int .i64 (m:Int)] w (bH (p.follows k m) b h w):=by
 obtain ⟨c12,c13,c14,c15⟩:=hi.aB9 hw;have f12:=Core.Is.free hi hw 12;have f13:=Core.Is.free hi hw 13;have f14:=Core.Is.free hi hw 14;have f15:=Core.Is.free hi hw 15;obtain ⟨h',i',t'⟩:=hi.aM4 (Own.aA.refl hw) k m m 0;have HI:=hhh i';have HT:=hhh t';clear hi hw i' t';go_enter func208,ntmps208;go_wp2;go_ret;exact ⟨_,[],h',rfl,.bare _ rfl,HI.o,HT.o⟩
theorem aEq (x:UInt8) (w:World):Calls prog 205 #[.int .u8 (x.toNat:Int)] w fun e w'=>e = .returned (.bool (cX x)) /\ w=w':=by
 have hlt:=UInt8.toNat_lt x;have HX:cX x=(decide (x.toNat / 32=5) || (decide (217 <= x.toNat) && decide (x.toNat <= 219))):=rfl;generalize cX x=X at HX |-;rcases (show x.toNat / 32=5 \/ (x.toNat / 32 ≠ 5 /\ x.toNat < 217) \/ (x.toNat / 32 ≠ 5 /\ 217 <= x.toNat /\ x.toNat <= 219) \/ (x.toNat / 32 ≠ 5 /\ 219 < x.toNat) by omega) with h | ⟨h,h2⟩ | ⟨h,h2,h3⟩ | ⟨h,h3⟩
 ·have HX2:=hhh (show X=true by rw [HX];simp [h])
  have q:(x.toNat:Int) / 32=5:=by omega
  clear HX h;go_enter func205,ntmps205;go_wp2;go_ret;exact ⟨by rw [HX2.o];rfl,rfl⟩
 ·have HX2:=hhh (show X=false by rw [HX];simp [h];omega)
  have q:((x.toNat:Int) / 32 == 5)=false:=by rw [bfn];omega
  have q2:¬ (217:Int) <= (x.toNat:Int):=by omega
  clear HX h h2;go_enter func205,ntmps205;go_wp2;go_ret;exact ⟨by rw [HX2.o];rfl,rfl⟩
 ·have HX2:=hhh (show X=true by rw [HX];simp [h2,h3])
  have q:((x.toNat:Int) / 32 == 5)=false:=by rw [bfn];omega
  have q2:(217:Int) <= (x.toNat:Int):=by omega
  have q3:(x.toNat:Int) <= 219:=by omega
  clear HX h h2 h3;go_enter func205,ntmps205;go_wp2;go_ret;exact ⟨by rw [HX2.o];rfl,rfl⟩
 ·have HX2:=hhh (show X=false by rw [HX];simp [h];omega)
  have q:((x.toNat:Int) / 32 == 5)=false:=by rw [bfn];omega
  have q2:(217:Int) <= (x.toNat:Int):=by omega
  have q3:¬ (x.toNat:Int) <= 219:=by omega
  clear HX h h3;go_enter func205,ntmps205;go_wp2;go_ret;exact ⟨by rw [HX2.o];rfl,rfl⟩
theorem rG (x:UInt8) (w:World):Calls prog 206 #[.int .u8 (x.toNat:Int)] w fun e w'=>e = .returned (.bool (cP x)) /\ w=w':=by
 have hlt:=UInt8.toNat_lt x;have HX:cP x=((decide (128 <= x.toNat) && decide (x.toNat <= 159)) || (decide (220 <= x.toNat) && decide (x.toNat <= 223))):=rfl;generalize cP x=X at HX |-;rcases (show x.toNat < 128 \/ (128 <= x.toNat /\ x.toNat <= 159) \/ (160 <= x.toNat /\ x.toNat < 220) \/ (220 <= x.toNat /\ x.toNat <= 223) \/ 224 <= x.toNat by omega) with h | ⟨h,h2⟩ | ⟨h,h2⟩ | ⟨h,h2⟩ | h
 ·have HX2:=hhh (show X=false by rw [HX];simp;omega)
  have q1:¬ (128:Int) <= (x.toNat:Int):=by omega
  have q2:¬ (220:Int) <= (x.toNat:Int):=by omega
  clear HX h;go_enter func206,ntmps206;go_wp2;go_ret;exact ⟨by rw [HX2.o];rfl,rfl⟩
 ·have HX2:=hhh (show X=true by rw [HX];simp [h,h2])
  have q1:(128:Int) <= (x.toNat:Int):=by omega
  have q2:(x.toNat:Int) <= 159:=by omega
  clear HX h h2;go_enter func206,ntmps206;go_wp2;go_ret;exact ⟨by rw [HX2.o];rfl,rfl⟩
 ·have HX2:=hhh (show X=false by rw [HX];simp;omega)
  have q1:(128:Int) <= (x.toNat:Int):=by omega
  have q2:¬ (x.toNat:Int) <= 159:=by omega
  have q3:¬ (220:Int) <= (x.toNat:Int):=by omega
  clear HX h h2;go_enter func206,ntmps206;go_wp2;go_ret;exact ⟨by rw [HX2.o];rfl,rfl⟩
 ·have HX2:=hhh (show X=true by rw [HX];simp [h,h2])
  have q1:(128:Int) <= (x.toNat:Int):=by omega
  have q2:¬ (x.toNat:Int) <= 159:=by omega
  have q3:(220:Int) <= (x.toNat:Int):=by omega
  have q4:(x.toNat:Int) <= 223:=by omega
  clear HX h h2;go_enter func206,ntmps206;go_wp2;go_ret;exact ⟨by rw [HX2.o];rfl,rfl⟩
 ·have HX2:=hhh (show X=false by rw [HX];simp;omega)
  have q1:(128:Int) <= (x.toNat:Int):=by omega
  have q2:¬ (x.toNat:Int) <= 159:=by omega
  have q3:(220:Int) <= (x.toNat:Int):=by omega
  have q4:¬ (x.toNat:Int) <= 223:=by omega
  clear HX h;go_enter func206,ntmps206;go_wp2;go_ret;exact ⟨by rw [HX2.o];rfl,rfl⟩
end
end Pip
end
section
open Go.RowKit
namespace Pip
section
variable {p:Pin} {b:Nat} {h:Own.Heap} {w:World}
theorem aBf (hi : p.Is b h) (hw : Own.Has w h) :
  Calls prog 88 #[.pointer (some ⟨b,0,none⟩)] w fun e w'=>e = .returned (.int .i64 (p.c.over:Int)) /\ w=w':=by
 have HO:=hhh (tG hi hw);clear hi hw;go_enter func88,ntmps88;go_wp2_with (fail);refine HO.o.mono ?_;rintro e w2 ⟨rfl,rfl⟩;go_wp2;go_ret;exact ⟨rfl,rfl⟩
end
theorem aB1 (d : Nat) (h1 : 1 ≤ d) (h16 : d ≤ 16) (w : World) :
  Calls prog 92 #[.int .i64 (d:Int)] w fun e w'=>∃ b h,e = .returned (.pointer (some ⟨b,0,none⟩)) /\ (Pin.new d).Is b h /\ Own.aA [] h w w':=by
 have hI:=hhh (show (Pin.new d).Is w.heap.size (Own.row w.heap.size 196 ((Pin.new d).c.cells (.slice none 0 0) (.slice none 0 0) ++ (Pin.new d).post) :: []) from
  ⟨_,_,[],[],.bare none rfl rfl,.bare none rfl,rfl⟩)
 have hT:=hhh ((Own.aA.refl (Own.Has.nil w)).alloc (.cells ((Pin.new d).c.cells (.slice none 0 0) (.slice none 0 0) ++ (Pin.new d).post).toArray 196));have l1:¬ (d:Int) < 1:=by omega
 have l2:¬ 16 < (d:Int):=by omega
 have l3:(d:Int) <= 16:=by omega
 clear h1 h16;go_enter func92,ntmps92;go_wp2;go_ret;exact ⟨_,rfl,_,hI.o,hT.o⟩
end Pip
end
section
open Go.RowKit
open Json (Part)
namespace Pip
theorem mN (w : World) (k : Nat) (hk : w.heap.size = k) (l : List UInt8) (n : Nat) (hn : l.length = n) (h : n ≤ maxLen) :
  (convert 55 9 (.slice (some ⟨k,0,none⟩) n n)).run prog (w.alloc (.cells (u8s l).toArray 5)) = .ok (.string ⟨l.toArray⟩) (w.alloc (.cells (u8s l).toArray 5)):=by
 subst hk hn;have t:=(Own.aA.refl (Own.Has.nil w)).aP w.heap.size rfl 5 (u8s l);have s:=Own.Slc.row (e:=5) (xs:=u8s l) w.heap.size [] [] (by rw [fR];simpa using h);rw [fR] at s;simp only [List.length_nil,Nat.add_zero,List.nil_append,List.append_nil] at s;exact Own.Slc.jG l 55 9 underlying55 underlying5 underlying9 s t.has
theorem aG1 (v:Nat):big v 1=[UInt8.ofNat v]:=by simp [big,List.range,List.range.loop]
theorem eM (v : Nat) (w : World) :
  Calls prog 20 #[.int .u64 (v:Int),.int .i64 1] w fun e w'=>e = .returned (.string ⟨(big v 1).toArray⟩) /\ Below w.heap.size w w':=by
 have HB:=hhh (fun o=>(Below.refl w.heap.size w).alloc (Nat.le_refl _) o);have HP:=hhh (aG1 v);have hz:madeCells #[Value.int .u8 0] 1 = #[Value.int .u8 0]:=by rw [Own.dQ];rfl
 have hmk:∀ W,(Instr.makeSlice 55 (.int .i64 1) (.int .i64 1)).run prog W = .ok (.slice (some ⟨W.heap.size,0,none⟩) 1 1) (W.alloc (.cells #[Value.int .u8 0] 5)):=fun W=>by
  have h:=run_make_row' (P:=prog) 55 5 (.int .u8 0) 1 underlying55 (by kernel_rfl) rfl .i64 .i64 1 (by omega) (by omega) W;rw [hz] at h;exact h
 obtain ⟨S,hS⟩:∃ S:ByteArray,S=⟨([UInt8.ofNat v]:List UInt8).toArray⟩:=⟨_,rfl⟩;have hcv:(convert 55 9 (.slice (some ⟨w.heap.size,0,none⟩) 1 1)).run prog (w.alloc (.cells #[.int .u8 ((v:Int) % 256)] 5)) = .ok (.string S) (w.alloc (.cells #[.int .u8 ((v:Int) % 256)] 5)):=by
  have h:=mN w w.heap.size rfl [UInt8.ofNat v] 1 rfl (by decide);have e:(u8s [UInt8.ofNat v]).toArray = #[.int .u8 ((v:Int) % 256)]:=by
   simp only [u8s,List.map_cons,List.map_nil,UInt8.toNat_ofNat'];rw [show ((v % 2 ^ 8:Nat):Int)=(v:Int) % 256 by omega]
  rw [e,<- hS] at h;exact h
 have HS:=hhh hS;clear hS hz;go_enter func20,ntmps20;go_wp2;refine wp_loop_rounds 2 ?_;rw [rounds_succ];go_wp2;rw [rounds_succ];go_wp2;go_ret;exact ⟨by rw [HP.o,<- HS.o];rfl,HB.o _⟩
theorem aIm (v:Nat):big v 2=[UInt8.ofNat (v / 256),UInt8.ofNat v]:=by simp [big,List.range,List.range.loop]
theorem gF (v : Nat) (w : World) :
  Calls prog 20 #[.int .u64 (v:Int),.int .i64 2] w fun e w'=>e = .returned (.string ⟨(big v 2).toArray⟩) /\ Below w.heap.size w w':=by
 have HB:=hhh (fun o=>(Below.refl w.heap.size w).alloc (Nat.le_refl _) o);have HP:=hhh (aIm v);have hz:madeCells #[Value.int .u8 0] 2 = #[Value.int .u8 0,Value.int .u8 0]:=by rw [Own.dQ];rfl
 have hmk:∀ W,(Instr.makeSlice 55 (.int .i64 2) (.int .i64 2)).run prog W = .ok (.slice (some ⟨W.heap.size,0,none⟩) 2 2) (W.alloc (.cells #[Value.int .u8 0,Value.int .u8 0] 5)):=fun W=>by
  have h:=run_make_row' (P:=prog) 55 5 (.int .u8 0) 1 underlying55 (by kernel_rfl) rfl .i64 .i64 2 (by omega) (by omega) W;rw [hz] at h;exact h
 obtain ⟨S,hS⟩:∃ S:ByteArray,S=⟨([UInt8.ofNat (v / 256),UInt8.ofNat v]:List UInt8).toArray⟩:=⟨_,rfl⟩;have hcv:(convert 55 9 (.slice (some ⟨w.heap.size,0,none⟩) 2 2)).run prog (w.alloc (.cells #[.int .u8 ((v:Int) / 256 % 256),.int .u8 ((v:Int) % 256)] 5)) = .ok (.string S) (w.alloc (.cells #[.int .u8 ((v:Int) / 256 % 256),.int .u8 ((v:Int) % 256)] 5)):=by
  have h:=mN w w.heap.size rfl [UInt8.ofNat (v / 256),UInt8.ofNat v] 2 rfl (by decide);have e:(u8s [UInt8.ofNat (v / 256),UInt8.ofNat v]).toArray = #[.int .u8 ((v:Int) / 256 % 256),.int .u8 ((v:Int) % 256)]:=by
   simp only [u8s,List.map_cons,List.map_nil,UInt8.toNat_ofNat'];rw [show ((v / 256 % 2 ^ 8:Nat):Int)=(v:Int) / 256 % 256 by omega];rw [show ((v % 2 ^ 8:Nat):Int)=(v:Int) % 256 by omega]
  rw [e,<- hS] at h;exact h
 have HS:=hhh hS;clear hS hz;go_enter func20,ntmps20;go_wp2;refine wp_loop_rounds 3 ?_;rw [rounds_succ];go_wp2;rw [rounds_succ];go_wp2;rw [rounds_succ];go_wp2;go_ret;exact ⟨by rw [HP.o,<- HS.o];rfl,HB.o _⟩
theorem aLz (v:Nat):big v 4=[UInt8.ofNat (v / 16777216),UInt8.ofNat (v / 65536),UInt8.ofNat (v / 256),UInt8.ofNat v]:=by simp [big,List.range,List.range.loop]
theorem gZ (v : Nat) (w : World) :
  Calls prog 20 #[.int .u64 (v:Int),.int .i64 4] w fun e w'=>e = .returned (.string ⟨(big v 4).toArray⟩) /\ Below w.heap.size w w':=by
 have HB:=hhh (fun o=>(Below.refl w.heap.size w).alloc (Nat.le_refl _) o);have HP:=hhh (aLz v);have hz:madeCells #[Value.int .u8 0] 4 = #[Value.int .u8 0,Value.int .u8 0,Value.int .u8 0,Value.int .u8 0]:=by rw [Own.dQ];rfl
 have hmk:∀ W,(Instr.makeSlice 55 (.int .i64 4) (.int .i64 4)).run prog W = .ok (.slice (some ⟨W.heap.size,0,none⟩) 4 4) (W.alloc (.cells #[Value.int .u8 0,Value.int .u8 0,Value.int .u8 0,Value.int .u8 0] 5)):=fun W=>by
  have h:=run_make_row' (P:=prog) 55 5 (.int .u8 0) 1 underlying55 (by kernel_rfl) rfl .i64 .i64 4 (by omega) (by omega) W;rw [hz] at h;exact h
 obtain ⟨S,hS⟩:∃ S:ByteArray,S=⟨([UInt8.ofNat (v / 16777216),UInt8.ofNat (v / 65536),UInt8.ofNat (v / 256),UInt8.ofNat v]:List UInt8).toArray⟩:=⟨_,rfl⟩;have hcv:(convert 55 9 (.slice (some ⟨w.heap.size,0,none⟩) 4 4)).run prog (w.alloc (.cells #[.int .u8 ((v:Int) / 16777216 % 256),.int .u8 ((v:Int) / 65536 % 256),.int .u8 ((v:Int) / 256 % 256),.int .u8 ((v:Int) % 256)] 5)) = .ok (.string S) (w.alloc (.cells #[.int .u8 ((v:Int) / 16777216 % 256),.int .u8 ((v:Int) / 65536 % 256),.int .u8 ((v:Int) / 256 % 256),.int .u8 ((v:Int) % 256)] 5)):=by
  have h:=mN w w.heap.size rfl [UInt8.ofNat (v / 16777216),UInt8.ofNat (v / 65536),UInt8.ofNat (v / 256),UInt8.ofNat v] 4 rfl (by decide);have e:(u8s [UInt8.ofNat (v / 16777216),UInt8.ofNat (v / 65536),UInt8.ofNat (v / 256),UInt8.ofNat v]).toArray = #[.int .u8 ((v:Int) / 16777216 % 256),.int .u8 ((v:Int) / 65536 % 256),.int .u8 ((v:Int) / 256 % 256),.int .u8 ((v:Int) % 256)]:=by
   simp only [u8s,List.map_cons,List.map_nil,UInt8.toNat_ofNat'];rw [show ((v / 16777216 % 2 ^ 8:Nat):Int)=(v:Int) / 16777216 % 256 by omega];rw [show ((v / 65536 % 2 ^ 8:Nat):Int)=(v:Int) / 65536 % 256 by omega];rw [show ((v / 256 % 2 ^ 8:Nat):Int)=(v:Int) / 256 % 256 by omega];rw [show ((v % 2 ^ 8:Nat):Int)=(v:Int) % 256 by omega]
  rw [e,<- hS] at h;exact h
 have HS:=hhh hS;clear hS hz;go_enter func20,ntmps20;go_wp2;refine wp_loop_rounds 5 ?_;rw [rounds_succ];go_wp2;rw [rounds_succ];go_wp2;rw [rounds_succ];go_wp2;rw [rounds_succ];go_wp2;rw [rounds_succ];go_wp2;go_ret;exact ⟨by rw [HP.o,<- HS.o];rfl,HB.o _⟩
theorem aL7 (v:Nat):big v 8=[UInt8.ofNat (v / 72057594037927936),UInt8.ofNat (v / 281474976710656),UInt8.ofNat (v / 1099511627776),UInt8.ofNat (v / 4294967296),UInt8.ofNat (v / 16777216),UInt8.ofNat (v / 65536),UInt8.ofNat (v / 256),UInt8.ofNat v]:=by simp [big,List.range,List.range.loop]
theorem qO (v : Nat) (hv : v < 18446744073709551616) (w : World) :
  Calls prog 20 #[.int .u64 (v:Int),.int .i64 8] w fun e w'=>e = .returned (.string ⟨(big v 8).toArray⟩) /\ Below w.heap.size w w':=by
 have HB:=hhh (fun o=>(Below.refl w.heap.size w).alloc (Nat.le_refl _) o);have HP:=hhh (aL7 v);have hz:madeCells #[Value.int .u8 0] 8 = #[Value.int .u8 0,Value.int .u8 0,Value.int .u8 0,Value.int .u8 0,Value.int .u8 0,Value.int .u8 0,Value.int .u8 0,Value.int .u8 0]:=by rw [Own.dQ];rfl
 have hmk:∀ W,(Instr.makeSlice 55 (.int .i64 8) (.int .i64 8)).run prog W = .ok (.slice (some ⟨W.heap.size,0,none⟩) 8 8) (W.alloc (.cells #[Value.int .u8 0,Value.int .u8 0,Value.int .u8 0,Value.int .u8 0,Value.int .u8 0,Value.int .u8 0,Value.int .u8 0,Value.int .u8 0] 5)):=fun W=>by
  have h:=run_make_row' (P:=prog) 55 5 (.int .u8 0) 1 underlying55 (by kernel_rfl) rfl .i64 .i64 8 (by omega) (by omega) W;rw [hz] at h;exact h
 obtain ⟨S,hS⟩:∃ S:ByteArray,S=⟨([UInt8.ofNat (v / 72057594037927936),UInt8.ofNat (v / 281474976710656),UInt8.ofNat (v / 1099511627776),UInt8.ofNat (v / 4294967296),UInt8.ofNat (v / 16777216),UInt8.ofNat (v / 65536),UInt8.ofNat (v / 256),UInt8.ofNat v]:List UInt8).toArray⟩:=⟨_,rfl⟩;have hcv:(convert 55 9 (.slice (some ⟨w.heap.size,0,none⟩) 8 8)).run prog (w.alloc (.cells #[.int .u8 ((v:Int) / 72057594037927936),.int .u8 ((v:Int) / 281474976710656 % 256),.int .u8 ((v:Int) / 1099511627776 % 256),.int .u8 ((v:Int) / 4294967296 % 256),.int .u8 ((v:Int) / 16777216 % 256),.int .u8 ((v:Int) / 65536 % 256),.int .u8 ((v:Int) / 256 % 256),.int .u8 ((v:Int) % 256)] 5)) = .ok (.string S) (w.alloc (.cells #[.int .u8 ((v:Int) / 72057594037927936),.int .u8 ((v:Int) / 281474976710656 % 256),.int .u8 ((v:Int) / 1099511627776 % 256),.int .u8 ((v:Int) / 4294967296 % 256),.int .u8 ((v:Int) / 16777216 % 256),.int .u8 ((v:Int) / 65536 % 256),.int .u8 ((v:Int) / 256 % 256),.int .u8 ((v:Int) % 256)] 5)):=by
  have h:=mN w w.heap.size rfl [UInt8.ofNat (v / 72057594037927936),UInt8.ofNat (v / 281474976710656),UInt8.ofNat (v / 1099511627776),UInt8.ofNat (v / 4294967296),UInt8.ofNat (v / 16777216),UInt8.ofNat (v / 65536),UInt8.ofNat (v / 256),UInt8.ofNat v] 8 rfl (by decide);have e:(u8s [UInt8.ofNat (v / 72057594037927936),UInt8.ofNat (v / 281474976710656),UInt8.ofNat (v / 1099511627776),UInt8.ofNat (v / 4294967296),UInt8.ofNat (v / 16777216),UInt8.ofNat (v / 65536),UInt8.ofNat (v / 256),UInt8.ofNat v]).toArray = #[.int .u8 ((v:Int) / 72057594037927936),.int .u8 ((v:Int) / 281474976710656 % 256),.int .u8 ((v:Int) / 1099511627776 % 256),.int .u8 ((v:Int) / 4294967296 % 256),.int .u8 ((v:Int) / 16777216 % 256),.int .u8 ((v:Int) / 65536 % 256),.int .u8 ((v:Int) / 256 % 256),.int .u8 ((v:Int) % 256)]:=by
   simp only [u8s,List.map_cons,List.map_nil,UInt8.toNat_ofNat'];rw [show ((v / 72057594037927936 % 2 ^ 8:Nat):Int)=(v:Int) / 72057594037927936 by omega];rw [show ((v / 281474976710656 % 2 ^ 8:Nat):Int)=(v:Int) / 281474976710656 % 256 by omega];rw [show ((v / 1099511627776 % 2 ^ 8:Nat):Int)=(v:Int) / 1099511627776 % 256 by omega];rw [show ((v / 4294967296 % 2 ^ 8:Nat):Int)=(v:Int) / 4294967296 % 256 by omega];rw [show ((v / 16777216 % 2 ^ 8:Nat):Int)=(v:Int) / 16777216 % 256 by omega];rw [show ((v / 65536 % 2 ^ 8:Nat):Int)=(v:Int) / 65536 % 256 by omega];rw [show ((v / 256 % 2 ^ 8:Nat):Int)=(v:Int) / 256 % 256 by omega];rw [show ((v % 2 ^ 8:Nat):Int)=(v:Int) % 256 by omega]
  rw [e,<- hS] at h;exact h
 have HS:=hhh hS;clear hS hz;go_enter func20,ntmps20;go_wp2;refine wp_loop_rounds 9 ?_;rw [rounds_succ];go_wp2;rw [rounds_succ];go_wp2;rw [rounds_succ];go_wp2;rw [rounds_succ];go_wp2;rw [rounds_succ];go_wp2;rw [rounds_succ];go_wp2;rw [rounds_succ];go_wp2;rw [rounds_succ];go_wp2;rw [rounds_succ];go_wp2;go_ret;exact ⟨by rw [HP.o,<- HS.o];rfl,HB.o _⟩
end Pip
end
section
open Go.RowKit
open Json (Part)
namespace Pip
theorem aS (v n:Nat):(big v n).length=n:=by simp [big]
theorem bF (a b:List UInt8):(⟨a.toArray⟩:ByteArray) ++ ⟨b.toArray⟩=⟨(a ++ b).toArray⟩:=by
 apply ByteArray.ext;simp
theorem aL (l:List UInt8):(⟨l.toArray⟩:ByteArray).size=l.length:=List.size_toArray ..
theorem aCv (m v:Nat) (hm:m < 8) (hv:v < 32):bits .or .u64 ((m * 32:Nat):Int) (v:Int)=((m * 32 + v:Nat):Int):=by
 have:=bits_join .u64 64 (by decide) (fun n h0 h1=>by rw [IntKind.wrap_u64];omega) 5 ((m * 32:Nat):Int) (v:Int) (by omega) (by omega) (by omega) (by omega) (by omega) (by omega);rw [this];omega
theorem or_cast (m v X:Nat) (hm:m < 8) (hv:v < 32) (hX:X=m * 32 + v):bits .or .u64 ((m:Int) * 32) (v:Int)=(X:Int):=by
 have h:=aCv m v hm hv;rw [show ((m * 32:Nat):Int)=(m:Int) * 32 by omega] at h;rw [h,hX]
theorem jI (m v : Nat) (hm : m < 8) (hv : v < 18446744073709551616) (w : World) :
  Calls prog 242 #[.int .i64 (m:Int),.int .u64 (v:Int)] w fun e w'=>e = .returned (.string ⟨(put m v).toArray⟩) /\ Below w.heap.size w w':=by
 have HP0:put m v=if v < 24 then big (m * 32 + v) 1 else if v < 256 then big (m * 32 + 24) 1 ++ big v 1 else if v < 65536 then big (m * 32 + 25) 1 ++ big v 2 else if v < 4294967296 then big (m * 32 + 26) 1 ++ big v 4 else big (m * 32 + 27) 1 ++ big v 8:=by
  unfold put;rw [Nat.mod_eq_of_lt hm]
 have HB1:=hhh (fun x u=>eM x u);have HB2:=hhh (fun x u=>gF x u);have HB4:=hhh (fun x u=>gZ x u);have HB8:=hhh (fun u=>qO v hv u);have HR:=hhh (Below.refl w.heap.size w);have HT:=hhh (fun (u x y:World) (b1:Below u.heap.size u x) (b2:Below x.heap.size x y)=>(b1.trans (b2.mono b1.size):Below u.heap.size u y));generalize put m v=O at HP0 |-;have ek:bits .and .i64 (m:Int) 7=(m:Int):=by
  rcases (show m=0 \/ m=1 \/ m=2 \/ m=3 \/ m=4 \/ m=5 \/ m=6 \/ m=7 by omega) with rfl | rfl | rfl | rfl | rfl | rfl | rfl | rfl <;> decide
 by_cases g1:v < 24
 ·have HP:=hhh (HP0.trans (ifp g1))
  have q1:(v:Int) < 24:=by omega
  obtain ⟨X,hX⟩:∃ X,X=m * 32 + v:=⟨_,rfl⟩;have eo:=or_cast m v X hm (by omega) hX;rw [<- hX] at HP;have HC1:=hhh (fun u=>HB1.o X u);clear HP0 g1 HB1 HB2 HB4 HB8 hv hX;go_enter func242,ntmps242;go_wp2_with (fail);refine (HC1.o _).mono ?_;rintro e w1 ⟨rfl,b1⟩;go_wp2;go_ret;rw [HP.o];exact ⟨rfl,b1⟩
 by_cases g2:v < 256
 ·have q1:¬ (v:Int) < 24:=by omega
  have q2:(v:Int) < 256:=by omega
  have HP:=hhh ((HP0.trans (ifn g1)).trans (ifp g2));obtain ⟨X,hX⟩:∃ X,X=m * 32 + 24:=⟨_,rfl⟩;have eo:bits .or .u64 ((m:Int) * 32) 24=(X:Int):=or_cast m 24 X hm (by decide) hX;rw [<- hX] at HP;have hS1:(⟨(big X 1).toArray⟩:ByteArray).size=1:=by rw [aL,aS]
  have hS2:(⟨(big v 1).toArray⟩:ByteArray).size=1:=by rw [aL,aS]
  have HCat:=hhh (bF (big X 1) (big v 1));have HC1:=hhh (fun u=>HB1.o X u);have HC2:=hhh (fun u=>HB1.o v u);generalize hs1:(⟨(big X 1).toArray⟩:ByteArray)=S1 at *
  generalize hs2:(⟨(big v 1).toArray⟩:ByteArray)=S2 at *
  clear HP0 HB1 HB2 HB4 HB8 hs1 hs2 hv hX g1 g2;go_enter func242,ntmps242;go_wp2_with (fail);refine (HC1.o _).mono ?_;rintro e w1 ⟨rfl,b1⟩;go_wp2_with (fail);refine (HC2.o _).mono ?_;rintro e w2 ⟨rfl,b2⟩;go_wp2;go_ret;rw [HP.o];exact ⟨Own.aZ HCat.o,HT.o _ _ _ b1 b2⟩
 by_cases g3:v < 65536
 ·have q1:¬ (v:Int) < 24:=by omega
  have q2:¬ (v:Int) < 256:=by omega
  have q3:(v:Int) < 65536:=by omega
  have HP:=hhh (((HP0.trans (ifn g1)).trans (ifn g2)).trans (ifp g3));obtain ⟨X,hX⟩:∃ X,X=m * 32 + 25:=⟨_,rfl⟩;have eo:bits .or .u64 ((m:Int) * 32) 25=(X:Int):=or_cast m 25 X hm (by decide) hX;rw [<- hX] at HP;have hS1:(⟨(big X 1).toArray⟩:ByteArray).size=1:=by rw [aL,aS]
  have hS2:(⟨(big v 2).toArray⟩:ByteArray).size=2:=by rw [aL,aS]
  have HCat:=hhh (bF (big X 1) (big v 2));have HC1:=hhh (fun u=>HB1.o X u);have HC2:=hhh (fun u=>HB2.o v u);generalize hs1:(⟨(big X 1).toArray⟩:ByteArray)=S1 at *
  generalize hs2:(⟨(big v 2).toArray⟩:ByteArray)=S2 at *
  clear HP0 HB1 HB2 HB4 HB8 hs1 hs2 hv hX g1 g2 g3;go_enter func242,ntmps242;go_wp2_with (fail);refine (HC1.o _).mono ?_;rintro e w1 ⟨rfl,b1⟩;go_wp2_with (fail);refine (HC2.o _).mono ?_;rintro e w2 ⟨rfl,b2⟩;go_wp2;go_ret;rw [HP.o];exact ⟨Own.aZ HCat.o,HT.o _ _ _ b1 b2⟩
 by_cases g4:v < 4294967296
 ·have q1:¬ (v:Int) < 24:=by omega
  have q2:¬ (v:Int) < 256:=by omega
  have q3:¬ (v:Int) < 65536:=by omega
  have q4:(v:Int) < 4294967296:=by omega
  have HP:=hhh ((((HP0.trans (ifn g1)).trans (ifn g2)).trans (ifn g3)).trans (ifp g4));obtain ⟨X,hX⟩:∃ X,X=m * 32 + 26:=⟨_,rfl⟩;have eo:bits .or .u64 ((m:Int) * 32) 26=(X:Int):=or_cast m 26 X hm (by decide) hX;rw [<- hX] at HP;have hS1:(⟨(big X 1).toArray⟩:ByteArray).size=1:=by rw [aL,aS]
  have hS2:(⟨(big v 4).toArray⟩:ByteArray).size=4:=by rw [aL,aS]
  have HCat:=hhh (bF (big X 1) (big v 4));have HC1:=hhh (fun u=>HB1.o X u);have HC2:=hhh (fun u=>HB4.o v u);generalize hs1:(⟨(big X 1).toArray⟩:ByteArray)=S1 at *
  generalize hs2:(⟨(big v 4).toArray⟩:ByteArray)=S2 at *
  clear HP0 HB1 HB2 HB4 HB8 hs1 hs2 hv hX g1 g2 g3 g4;go_enter func242,ntmps242;go_wp2_with (fail);refine (HC1.o _).mono ?_;rintro e w1 ⟨rfl,b1⟩;go_wp2_with (fail);refine (HC2.o _).mono ?_;rintro e w2 ⟨rfl,b2⟩;go_wp2;go_ret;rw [HP.o];exact ⟨Own.aZ HCat.o,HT.o _ _ _ b1 b2⟩
 ·have q1:¬ (v:Int) < 24:=by omega
  have q2:¬ (v:Int) < 256:=by omega
  have q3:¬ (v:Int) < 65536:=by omega
  have q4:¬ (v:Int) < 4294967296:=by omega
  have HP:=hhh ((((HP0.trans (ifn g1)).trans (ifn g2)).trans (ifn g3)).trans (ifn g4));obtain ⟨X,hX⟩:∃ X,X=m * 32 + 27:=⟨_,rfl⟩;have eo:bits .or .u64 ((m:Int) * 32) 27=(X:Int):=or_cast m 27 X hm (by decide) hX;rw [<- hX] at HP;have hS1:(⟨(big X 1).toArray⟩:ByteArray).size=1:=by rw [aL,aS]
  have hS2:(⟨(big v 8).toArray⟩:ByteArray).size=8:=by rw [aL,aS]
  have HCat:=hhh (bF (big X 1) (big v 8));have HC1:=hhh (fun u=>HB1.o X u);have HC2:=hhh (fun u=>HB8.o u);generalize hs1:(⟨(big X 1).toArray⟩:ByteArray)=S1 at *
  generalize hs2:(⟨(big v 8).toArray⟩:ByteArray)=S2 at *
  clear HP0 HB1 HB2 HB4 HB8 hs1 hs2 hv hX g1 g2 g3 g4;go_enter func242,ntmps242;go_wp2_with (fail);refine (HC1.o _).mono ?_;rintro e w1 ⟨rfl,b1⟩;go_wp2_with (fail);refine (HC2.o _).mono ?_;rintro e w2 ⟨rfl,b2⟩;go_wp2;go_ret;rw [HP.o];exact ⟨Own.aZ HCat.o,HT.o _ _ _ b1 b2⟩
end Pip
end
section
open Go.RowKit
open Json (Part)
namespace Pip
theorem u8_not:∀ n:Fin 256,bits .xor .u8 255 (n.val:Int)=255 - (n.val:Int):=by decide +kernel
section
variable {p:Pin} {b:Nat} {h:Own.Heap} {w:World}
theorem bO {f : Nat} {a : Array Value} {o : Core × List Part} {O : Pin × List Part} {u : World} {Q : Ending → World → Prop}
  (hC:Calls prog f a u (bN o 196 b p.post h u)) (ht:∀ {h4 w4},Own.aA h h4 u w4 -> Own.aA h h4 w w4)
  (hP:Hid (O=p.on o)) (H:∀ v w4,Hid (bH O b h w (.returned v) w4) -> Q (.returned v) w4):Calls prog f a u Q:=by
 refine hC.mono ?_;rintro e w4 ⟨v,hv,h4,rfl,hs,i4,t4⟩;refine H v w4 (hhh ?_);rw [hP.out];exact ⟨_,hv,h4,rfl,hs,i4,ht t4⟩
theorem dM {f : Nat} {a : Array Value} {o O : Pin × List Part} {u : World} {Q : Ending → World → Prop}
  (hC:Calls prog f a u (bH o b h u)) (ht:∀ {h4 w4},Own.aA h h4 u w4 -> Own.aA h h4 w w4)
  (hP:Hid (O=o)) (H:∀ v w4,Hid (bH O b h w (.returned v) w4) -> Q (.returned v) w4):Calls prog f a u Q:=by
 refine hC.mono ?_;rintro e w4 ⟨v,hv,h4,rfl,hs,i4,t4⟩;refine H v w4 (hhh ?_);rw [hP.out];exact ⟨_,hv,h4,rfl,hs,i4,ht t4⟩
theorem aEj (hi : p.Is b h) (hw : Own.Has w h) (x : UInt8) (h1 : 196 ≤ x.toNat) (h2 : x.toNat < 224) (h3 : x.toNat ≤ 198 ∨ 204 ≤ x.toNat) (h4 : x.toNat ≤ 211 ∨ 217 ≤ x.toNat) :
  Calls prog 207 #[.pointer (some ⟨b,0,none⟩),.int .u8 (x.toNat:Int)] w (bH (p.long x) b h w):=by
 have HC:=hhh (fun k m=>vP hi hw k m)
 have HP0 : p.long x = if x.toNat ≤ 198 then p.follows 3 (2 ^ (x.toNat - 196)) else if x.toNat ≤ 207 then p.follows 1 (2 ^ (x.toNat - 204)) else if x.toNat ≤ 211 then p.follows 2 (2 ^ (x.toNat - 208))
   else if x.toNat <= 219 then p.follows 4 (2 ^ (x.toNat - 217)) else if x.toNat <= 221 then p.follows 5 (2 * 2 ^ (x.toNat - 220)) else p.follows 6 (2 * 2 ^ (x.toNat - 222)):=rfl
 generalize p.long x=O at HP0 |-;generalize x.toNat=n at *
 clear hi hw;rcases (show n=196 \/ n=197 \/ n=198 \/ n=204 \/ n=205 \/ n=206 \/ n=207 \/ n=208 \/ n=209 \/ n=210 \/ n=211 \/ n=217 \/ n=218 \/ n=219 \/ n=220 \/ n=221 \/ n=222 \/ n=223 by omega) with rfl | rfl | rfl | rfl | rfl | rfl | rfl | rfl | rfl | rfl | rfl | rfl | rfl | rfl | rfl | rfl | rfl | rfl
 ·have HP:=hhh (HP0.trans (show _=p.follows 3 1 from rfl))
  have HD:=hhh (HC.o 3 1);clear HP0 HC h1 h2 h3 h4;show Calls prog 207 #[.pointer (some ⟨b,0,none⟩),.int .u8 196] w (bH O b h w);go_enter func207,ntmps207;go_wp2_with (fail);refine dM HD.o (fun t=>t) HP ?_;intro v w4 G;go_wp2;go_ret;exact G.out
 ·have HP:=hhh (HP0.trans (show _=p.follows 3 2 from rfl))
  have HD:=hhh (HC.o 3 2);clear HP0 HC h1 h2 h3 h4;show Calls prog 207 #[.pointer (some ⟨b,0,none⟩),.int .u8 197] w (bH O b h w);go_enter func207,ntmps207;go_wp2_with (fail);refine dM HD.o (fun t=>t) HP ?_;intro v w4 G;go_wp2;go_ret;exact G.out
 ·have HP:=hhh (HP0.trans (show _=p.follows 3 4 from rfl))
  have HD:=hhh (HC.o 3 4);clear HP0 HC h1 h2 h3 h4;show Calls prog 207 #[.pointer (some ⟨b,0,none⟩),.int .u8 198] w (bH O b h w);go_enter func207,ntmps207;go_wp2_with (fail);refine dM HD.o (fun t=>t) HP ?_;intro v w4 G;go_wp2;go_ret;exact G.out
 ·have HP:=hhh (HP0.trans (show _=p.follows 1 1 from rfl))
  have HD:=hhh (HC.o 1 1);clear HP0 HC h1 h2 h3 h4;show Calls prog 207 #[.pointer (some ⟨b,0,none⟩),.int .u8 204] w (bH O b h w);go_enter func207,ntmps207;go_wp2_with (fail);refine dM HD.o (fun t=>t) HP ?_;intro v w4 G;go_wp2;go_ret;exact G.out
 ·have HP:=hhh (HP0.trans (show _=p.follows 1 2 from rfl))
  have HD:=hhh (HC.o 1 2);clear HP0 HC h1 h2 h3 h4;show Calls prog 207 #[.pointer (some ⟨b,0,none⟩),.int .u8 205] w (bH O b h w);go_enter func207,ntmps207;go_wp2_with (fail);refine dM HD.o (fun t=>t) HP ?_;intro v w4 G;go_wp2;go_ret;exact G.out
 ·have HP:=hhh (HP0.trans (show _=p.follows 1 4 from rfl))
  have HD:=hhh (HC.o 1 4);clear HP0 HC h1 h2 h3 h4;show Calls prog 207 #[.pointer (some ⟨b,0,none⟩),.int .u8 206] w (bH O b h w);go_enter func207,ntmps207;go_wp2_with (fail);refine dM HD.o (fun t=>t) HP ?_;intro v w4 G;go_wp2;go_ret;exact G.out
 ·have HP:=hhh (HP0.trans (show _=p.follows 1 8 from rfl))
  have HD:=hhh (HC.o 1 8);clear HP0 HC h1 h2 h3 h4;show Calls prog 207 #[.pointer (some ⟨b,0,none⟩),.int .u8 207] w (bH O b h w);go_enter func207,ntmps207;go_wp2_with (fail);refine dM HD.o (fun t=>t) HP ?_;intro v w4 G;go_wp2;go_ret;exact G.out
 ·have HP:=hhh (HP0.trans (show _=p.follows 2 1 from rfl))
  have HD:=hhh (HC.o 2 1);clear HP0 HC h1 h2 h3 h4;show Calls prog 207 #[.pointer (some ⟨b,0,none⟩),.int .u8 208] w (bH O b h w);go_enter func207,ntmps207;go_wp2_with (fail);refine dM HD.o (fun t=>t) HP ?_;intro v w4 G;go_wp2;go_ret;exact G.out
 ·have HP:=hhh (HP0.trans (show _=p.follows 2 2 from rfl))
  have HD:=hhh (HC.o 2 2);clear HP0 HC h1 h2 h3 h4;show Calls prog 207 #[.pointer (some ⟨b,0,none⟩),.int .u8 209] w (bH O b h w);go_enter func207,ntmps207;go_wp2_with (fail);refine dM HD.o (fun t=>t) HP ?_;intro v w4 G;go_wp2;go_ret;exact G.out
 ·have HP:=hhh (HP0.trans (show _=p.follows 2 4 from rfl))
  have HD:=hhh (HC.o 2 4);clear HP0 HC h1 h2 h3 h4;show Calls prog 207 #[.pointer (some ⟨b,0,none⟩),.int .u8 210] w (bH O b h w);go_enter func207,ntmps207;go_wp2_with (fail);refine dM HD.o (fun t=>t) HP ?_;intro v w4 G;go_wp2;go_ret;exact G.out
 ·have HP:=hhh (HP0.trans (show _=p.follows 2 8 from rfl))
  have HD:=hhh (HC.o 2 8);clear HP0 HC h1 h2 h3 h4;show Calls prog 207 #[.pointer (some ⟨b,0,none⟩),.int .u8 211] w (bH O b h w);go_enter func207,ntmps207;go_wp2_with (fail);refine dM HD.o (fun t=>t) HP ?_;intro v w4 G;go_wp2;go_ret;exact G.out
 ·have HP:=hhh (HP0.trans (show _=p.follows 4 1 from rfl))
  have HD:=hhh (HC.o 4 1);clear HP0 HC h1 h2 h3 h4;show Calls prog 207 #[.pointer (some ⟨b,0,none⟩),.int .u8 217] w (bH O b h w);go_enter func207,ntmps207;go_wp2_with (fail);refine dM HD.o (fun t=>t) HP ?_;intro v w4 G;go_wp2;go_ret;exact G.out
 ·have HP:=hhh (HP0.trans (show _=p.follows 4 2 from rfl))
  have HD:=hhh (HC.o 4 2);clear HP0 HC h1 h2 h3 h4;show Calls prog 207 #[.pointer (some ⟨b,0,none⟩),.int .u8 218] w (bH O b h w);go_enter func207,ntmps207;go_wp2_with (fail);refine dM HD.o (fun t=>t) HP ?_;intro v w4 G;go_wp2;go_ret;exact G.out
 ·have HP:=hhh (HP0.trans (show _=p.follows 4 4 from rfl))
  have HD:=hhh (HC.o 4 4);clear HP0 HC h1 h2 h3 h4;show Calls prog 207 #[.pointer (some ⟨b,0,none⟩),.int .u8 219] w (bH O b h w);go_enter func207,ntmps207;go_wp2_with (fail);refine dM HD.o (fun t=>t) HP ?_;intro v w4 G;go_wp2;go_ret;exact G.out
 ·have HP:=hhh (HP0.trans (show _=p.follows 5 2 from rfl))
  have HD:=hhh (HC.o 5 2);clear HP0 HC h1 h2 h3 h4;show Calls prog 207 #[.pointer (some ⟨b,0,none⟩),.int .u8 220] w (bH O b h w);go_enter func207,ntmps207;go_wp2_with (fail);refine dM HD.o (fun t=>t) HP ?_;intro v w4 G;go_wp2;go_ret;exact G.out
 ·have HP:=hhh (HP0.trans (show _=p.follows 5 4 from rfl))
  have HD:=hhh (HC.o 5 4);clear HP0 HC h1 h2 h3 h4;show Calls prog 207 #[.pointer (some ⟨b,0,none⟩),.int .u8 221] w (bH O b h w);go_enter func207,ntmps207;go_wp2_with (fail);refine dM HD.o (fun t=>t) HP ?_;intro v w4 G;go_wp2;go_ret;exact G.out
 ·have HP:=hhh (HP0.trans (show _=p.follows 6 2 from rfl))
  have HD:=hhh (HC.o 6 2);clear HP0 HC h1 h2 h3 h4;show Calls prog 207 #[.pointer (some ⟨b,0,none⟩),.int .u8 222] w (bH O b h w);go_enter func207,ntmps207;go_wp2_with (fail);refine dM HD.o (fun t=>t) HP ?_;intro v w4 G;go_wp2;go_ret;exact G.out
 ·have HP:=hhh (HP0.trans (show _=p.follows 6 4 from rfl))
  have HD:=hhh (HC.o 6 4);clear HP0 HC h1 h2 h3 h4;show Calls prog 207 #[.pointer (some ⟨b,0,none⟩),.int .u8 223] w (bH O b h w);go_enter func207,ntmps207;go_wp2_with (fail);refine dM HD.o (fun t=>t) HP ?_;intro v w4 G;go_wp2;go_ret;exact G.out
end
end Pip
end
section
open Go.RowKit
open Json (Part)
namespace Pip
section
variable {p:Pin} {b:Nat} {h:Own.Heap} {w:World}
def jR (p:Pin) (b:Nat) (h:Own.Heap) (w:World) (lo hi:Nat) (X:Bool):Prop :=
 ∀ (N D:Nat) (K:Bool) (O L:Pin × List Part),
  Hid (∀ (u:World) (_:Own.aA h h w u) (e:Nat),Calls prog 183 #[.pointer (some ⟨b,0,none⟩),.int .i64 (e:Int)] u (bN (p.c.fail e) 196 b p.post h u)) ->
  Hid (∀ e:Nat,Calls prog 183 #[.pointer (some ⟨b,0,none⟩),.int .i64 (e:Int)] w (bN (p.c.fail e) 196 b p.post h w)) ->
  Hid (Calls prog 193 #[.pointer (some ⟨b,0,none⟩)] w fun e w'=>e = .returned (.bool p.c.done) /\ w=w') ->
  Hid (Calls prog 195 #[.pointer (some ⟨b,0,none⟩)] w fun e w'=>e = .returned (.bool p.c.atKey) /\ Own.aA h h w w') ->
  Hid (∀ (u:World) (_:Own.aA h h w u),Calls prog 197 #[.pointer (some ⟨b,0,none⟩)] u fun e w'=>e = .returned (.bool p.c.full) /\ Own.aA h h u w') ->
  Hid (∀ (u:World) (_:Own.aA h h w u) (v:Part),Calls prog 190 #[.pointer (some ⟨b,0,none⟩),v.val] u (bN (p.c.value v) 196 b p.post h u)) ->
  Hid (∀ (u:World) (_:Own.aA h h w u) (m:Nat),Calls prog 191 #[.pointer (some ⟨b,0,none⟩),.bool true,.int .u64 (m:Int)] u (bN (p.c.length true m) 196 b p.post h u)) ->
  Hid (∀ (u:World) (_:Own.aA h h w u) (pr:Bool) (m:Nat),Calls prog 204 #[.pointer (some ⟨b,0,none⟩),.bool pr,.int .u64 (m:Int)] u (bH (p.count pr m) b h u)) ->
  Hid (∀ (u:World) (_:Own.aA h h w u) (_:196 <= N) (_:N < 224) (_:N <= 198 \/ 204 <= N) (_:N <= 211 \/ 217 <= N),Calls prog 207 #[.pointer (some ⟨b,0,none⟩),.int .u8 (N:Int)] u (bH L b h u)) ->
  Hid (∀ u:World,Calls prog 205 #[.int .u8 (N:Int)] u fun e w'=>e = .returned (.bool X) /\ u=w') ->
  Hid (∀ u:World,Calls prog 206 #[.int .u8 (N:Int)] u fun e w'=>e = .returned (.bool K) /\ u=w') ->
  Hid (K=((decide (128 <= N) && decide (N <= 159)) || (decide (220 <= N) && decide (N <= 223)))) ->
  ((N:Int) < 256) ->
  Hid (N < 256) ->
  (bits .and .u8 (N:Int) 15=(N:Int) % 16) ->
  (bits .and .u8 (N:Int) 31=(N:Int) % 32) ->
  (bits .xor .u8 IntKind.u8.max (N:Int)=(D:Int)) ->
  (IntKind.u64.wrap (D:Int)=(D:Int)) ->
  Hid (D < 256) ->
  Hid (O=if p.c.done=true \/ N=193 then p.on (p.c.fail 2) else if p.c.atKey=true /\ X=false then p.on (p.c.fail 8) else if (199 <= N /\ N <= 201) \/ (212 <= N /\ N <= 216) then p.on (p.c.fail 8) else if N=202 \/ N=203 then p.on (p.c.fail 6) else if K=true /\ p.c.full=true then p.on (p.c.fail 4) else if N < 128 then p.on (p.c.value (.whole false N)) else if 224 <= N then p.on (p.c.value (.whole true D)) else if N < 160 then p.count (decide (N < 144)) (N % 16) else if N < 192 then p.on (p.c.length true (N % 32)) else if N=192 then p.on (p.c.value .null) else if N <= 195 then p.on (p.c.value (.bool (decide (N=195)))) else L) ->
  Hid (lo <= N /\ N <= hi) ->
  Calls prog 203 #[.pointer (some ⟨b,0,none⟩),.int .u8 (N:Int)] w (bH O b h w)
theorem cG {n lo hi_ : Nat} {X : Bool} (hi : p.Is b h) (hw : Own.Has w h) (hf : p.Fits n) (hn : n ≤ 1000000) (x : UInt8) (hlo : lo ≤ x.toNat) (hhi : x.toNat ≤ hi_) (hX : cX x = X) (H : jR p b h w lo hi_ X) :
  Calls prog 203 #[.pointer (some ⟨b,0,none⟩),.int .u8 (x.toNat:Int)] w (bH (p.item x) b h w):=by
 have hl:=UInt8.toNat_lt x;refine H x.toNat (255 - x.toNat) (cP x) (p.item x) (p.long x) (hhh fun u t e=>cZ hi t.has e) (hhh fun e=>cZ hi hw e) (hhh (uF hi hw)) (hhh (rJ hi hw hf.c))
  (hhh fun u t=>uJ hi t.has) (hhh fun u t v=>dX hi t.has hf.c hn v) (hhh fun u t m=>iC hi t.has hf.c hn true m) (hhh fun u t pr m=>lN hi t.has hf.c hn pr m)
  (hhh fun u t g1 g2 g3 g4=>aEj hi t.has x g1 g2 g3 g4) (hhh fun u=>hX ▸ aEq x u) (hhh fun u=>rG x u) (hhh rfl) (by omega) (hhh (by omega))
  (bits_mask .u8 8 (by decide) wraps_u8 4 (by decide) (x.toNat:Int) (by omega) (by omega)) (bits_mask .u8 8 (by decide) wraps_u8 5 (by decide) (x.toNat:Int) (by omega) (by omega)) ?_ ?_ (hhh (by omega)) (hhh ?_) (hhh ⟨hlo,hhi⟩)
 ·have:=u8_not ⟨x.toNat,by omega⟩
  simp only at this;show bits .xor .u8 255 (x.toNat:Int)=((255 - x.toNat:Nat):Int);rw [this];omega
 ·rw [IntKind.wrap_u64];omega
 ·rw [<- hX];rfl
end
end Pip
end
section
open Go.RowKit
open Json (Part)
namespace Pip
section
variable {p:Pin} {b:Nat} {h:Own.Heap} {w:World}
theorem pitem_0:jR p b h w 0 127 false:=by
 intro N D K O L HF HF0 HD HA HFu HV HLe HCo HLo HX HK HKh hltI HNl eA eB eX eW HDl HPh HNb;have q0:((N:Int) == 193)=false:=by rw [bfn];have:=HNb.out;omega
 go_enter func203,ntmps203;go_wp2_with (fail);refine HD.out.mono ?_;rintro e w1 ⟨rfl,rfl⟩
 cases hd:p.c.done
 case true =>
  have HP:=hhh (HPh.out.trans (ifp (.inl hd)));clear HPh hd;go_wp2_with (fail);refine bO (HF0.out 2) (fun t=>t) HP ?_;intro v w4 G;go_wp2;go_ret;exact G.out
 case false =>
  have HPd:=hhh (HPh.out.trans (ifn (by rw [hd];first | (simp;done) | (have:=HNb.out;simp;omega))));clear HPh hd;go_wp2_with (fail);refine HA.out.mono ?_;rintro e w2 ⟨rfl,t2⟩;have T2:=hhh t2;clear t2
  cases hk:p.c.atKey
  ·have HPk:=hhh (HPd.o.trans (ifn (by rw [hk];simp)))
   clear HPd hk HX;have a1:¬ (199:Int) <= (N:Int):=by have:=HNb.out;omega
   have a3:¬ (212:Int) <= (N:Int):=by have:=HNb.out;omega
   have a5:((N:Int) == 202)=false:=by rw [bfn];have:=HNb.out;omega
   have a6:((N:Int) == 203)=false:=by rw [bfn];have:=HNb.out;omega
   have a7:(N:Int) < 128:=by have:=HNb.out;omega
   have HPl:=hhh (HPk.o.trans (ifn (by first | (have:=HNb.out;omega) | trivial | (simp;done))));clear HPk;have HPm:=hhh (HPl.o.trans (ifn (by first | (have:=HNb.out;omega) | trivial | (simp;done))));clear HPl;have hK:K=false:=by rw [HKh.out];have:=HNb.out;first | (simp;done) | (simp;omega)
   rw [hK] at HK HPm;clear hK HKh;go_wp2_with (fail);refine (HK.out _).mono ?_;rintro e w3 ⟨rfl,rfl⟩;have HPn:=hhh (HPm.o.trans (ifn (by simp)));clear HPm;have HP:=hhh (HPn.o.trans (ifp (by first | (have:=HNb.out;omega) | trivial | (simp;done))));clear HPn HNb;go_wp2_with (fail);refine bO (HV.out _ T2.o (.whole false N)) (fun t=>T2.o.trans t) HP ?_;intro v w4 G;go_wp2;go_ret;exact G.out
  ·go_wp2_with (fail)
   refine (HX.out _).mono ?_;rintro e w3 ⟨rfl,rfl⟩;have HP:=hhh (HPd.o.trans (ifp (by rw [hk];simp)));clear HPd hk HX;go_wp2_with (fail);refine bO (HF.out _ T2.o 8) (fun t=>T2.o.trans t) HP ?_;intro v w4 G;go_wp2;go_ret;exact G.out
theorem pitem_128:jR p b h w 128 143 false:=by
 intro N D K O L HF HF0 HD HA HFu HV HLe HCo HLo HX HK HKh hltI HNl eA eB eX eW HDl HPh HNb;have q0:((N:Int) == 193)=false:=by rw [bfn];have:=HNb.out;omega
 go_enter func203,ntmps203;go_wp2_with (fail);refine HD.out.mono ?_;rintro e w1 ⟨rfl,rfl⟩
 cases hd:p.c.done
 case true =>
  have HP:=hhh (HPh.out.trans (ifp (.inl hd)));clear HPh hd;go_wp2_with (fail);refine bO (HF0.out 2) (fun t=>t) HP ?_;intro v w4 G;go_wp2;go_ret;exact G.out
 case false =>
  have HPd:=hhh (HPh.out.trans (ifn (by rw [hd];first | (simp;done) | (have:=HNb.out;simp;omega))));clear HPh hd;go_wp2_with (fail);refine HA.out.mono ?_;rintro e w2 ⟨rfl,t2⟩;have T2:=hhh t2;clear t2
  cases hk:p.c.atKey
  ·have HPk:=hhh (HPd.o.trans (ifn (by rw [hk];simp)))
   clear HPd hk HX;have a1:¬ (199:Int) <= (N:Int):=by have:=HNb.out;omega
   have a3:¬ (212:Int) <= (N:Int):=by have:=HNb.out;omega
   have a5:((N:Int) == 202)=false:=by rw [bfn];have:=HNb.out;omega
   have a6:((N:Int) == 203)=false:=by rw [bfn];have:=HNb.out;omega
   have a7:¬ (N:Int) < 128:=by have:=HNb.out;omega
   have a8:¬ (224:Int) <= (N:Int):=by have:=HNb.out;omega
   have a9:(N:Int) < 160:=by have:=HNb.out;omega
   have b1:(N:Int) < 144:=by have:=HNb.out;omega
   have HPl:=hhh (HPk.o.trans (ifn (by first | (have:=HNb.out;omega) | trivial | (simp;done))));clear HPk;have HPm:=hhh (HPl.o.trans (ifn (by first | (have:=HNb.out;omega) | trivial | (simp;done))));clear HPl;have hK:K=true:=by rw [HKh.out];have:=HNb.out;first | (simp;done) | (simp;omega)
   rw [hK] at HK HPm;clear hK HKh;go_wp2_with (fail);refine (HK.out _).mono ?_;rintro e w3 ⟨rfl,rfl⟩;go_wp2_with (fail);refine (HFu.out _ T2.o).mono ?_;rintro e w5 ⟨rfl,t5⟩;have T5:=hhh (T2.o.trans t5);clear t5
   cases hu:p.c.full
   ·have HPn:=hhh (HPm.o.trans (ifn (by rw [hu];simp)))
    clear HPm hu;have e1:((N % 16:Nat):Int)=(N:Int) % 16:=by omega
    have HC1:=HCo.out _ T5.o true (N % 16);rw [e1] at HC1;have HC2:=hhh HC1;clear e1 HC1;have HP:=hhh (((HPn.o.trans (ifn (by first | (have:=HNb.out;omega) | trivial | (simp;done)))).trans (ifn (by first | (have:=HNb.out;omega) | trivial | (simp;done)))).trans ((ifp (by first | (have:=HNb.out;omega) | trivial | (simp;done))).trans (show _=p.count true (N % 16) by rw [show decide (N < 144)=true by have:=HNb.out;first | (simp;done) | (simp;omega)])));clear HPn HNb;go_wp2_with (fail);refine dM (HC2.o) (fun t=>T5.o.trans t) HP ?_;intro v w4 G;go_wp2;go_ret;exact G.out
   ·have HP:=hhh (HPm.o.trans (ifp (by rw [hu];simp)))
    clear HPm hu HNb;go_wp2_with (fail);refine bO (HF.out _ T5.o 4) (fun t=>T5.o.trans t) HP ?_;intro v w4 G;go_wp2;go_ret;exact G.out
  ·go_wp2_with (fail)
   refine (HX.out _).mono ?_;rintro e w3 ⟨rfl,rfl⟩;have HP:=hhh (HPd.o.trans (ifp (by rw [hk];simp)));clear HPd hk HX;go_wp2_with (fail);refine bO (HF.out _ T2.o 8) (fun t=>T2.o.trans t) HP ?_;intro v w4 G;go_wp2;go_ret;exact G.out
theorem pitem_144:jR p b h w 144 159 false:=by
 intro N D K O L HF HF0 HD HA HFu HV HLe HCo HLo HX HK HKh hltI HNl eA eB eX eW HDl HPh HNb;have q0:((N:Int) == 193)=false:=by rw [bfn];have:=HNb.out;omega
 go_enter func203,ntmps203;go_wp2_with (fail);refine HD.out.mono ?_;rintro e w1 ⟨rfl,rfl⟩
 cases hd:p.c.done
 case true =>
  have HP:=hhh (HPh.out.trans (ifp (.inl hd)));clear HPh hd;go_wp2_with (fail);refine bO (HF0.out 2) (fun t=>t) HP ?_;intro v w4 G;go_wp2;go_ret;exact G.out
 case false =>
  have HPd:=hhh (HPh.out.trans (ifn (by rw [hd];first | (simp;done) | (have:=HNb.out;simp;omega))));clear HPh hd;go_wp2_with (fail);refine HA.out.mono ?_;rintro e w2 ⟨rfl,t2⟩;have T2:=hhh t2;clear t2
  cases hk:p.c.atKey
  ·have HPk:=hhh (HPd.o.trans (ifn (by rw [hk];simp)))
   clear HPd hk HX;have a1:¬ (199:Int) <= (N:Int):=by have:=HNb.out;omega
   have a3:¬ (212:Int) <= (N:Int):=by have:=HNb.out;omega
   have a5:((N:Int) == 202)=false:=by rw [bfn];have:=HNb.out;omega
   have a6:((N:Int) == 203)=false:=by rw [bfn];have:=HNb.out;omega
   have a7:¬ (N:Int) < 128:=by have:=HNb.out;omega
   have a8:¬ (224:Int) <= (N:Int):=by have:=HNb.out;omega
   have a9:(N:Int) < 160:=by have:=HNb.out;omega
   have b1:¬ (N:Int) < 144:=by have:=HNb.out;omega
   have b1d:decide ((N:Int) < 144)=false:=by rw [decide_eq_false_iff_not];have:=HNb.out;omega
   have HPl:=hhh (HPk.o.trans (ifn (by first | (have:=HNb.out;omega) | trivial | (simp;done))));clear HPk;have HPm:=hhh (HPl.o.trans (ifn (by first | (have:=HNb.out;omega) | trivial | (simp;done))));clear HPl;have hK:K=true:=by rw [HKh.out];have:=HNb.out;first | (simp;done) | (simp;omega)
   rw [hK] at HK HPm;clear hK HKh;go_wp2_with (fail);refine (HK.out _).mono ?_;rintro e w3 ⟨rfl,rfl⟩;go_wp2_with (fail);refine (HFu.out _ T2.o).mono ?_;rintro e w5 ⟨rfl,t5⟩;have T5:=hhh (T2.o.trans t5);clear t5
   cases hu:p.c.full
   ·have HPn:=hhh (HPm.o.trans (ifn (by rw [hu];simp)))
    clear HPm hu;have e1:((N % 16:Nat):Int)=(N:Int) % 16:=by omega
    have HC1:=HCo.out _ T5.o false (N % 16);rw [e1] at HC1;have HC2:=hhh HC1;clear e1 HC1;have HP:=hhh (((HPn.o.trans (ifn (by first | (have:=HNb.out;omega) | trivial | (simp;done)))).trans (ifn (by first | (have:=HNb.out;omega) | trivial | (simp;done)))).trans ((ifp (by first | (have:=HNb.out;omega) | trivial | (simp;done))).trans (show _=p.count false (N % 16) by rw [show decide (N < 144)=false by have:=HNb.out;first | (simp;done) | (simp;omega)])));clear HPn HNb;go_wp2_with (fail);refine dM (HC2.o) (fun t=>T5.o.trans t) HP ?_;intro v w4 G;go_wp2;go_ret;exact G.out
   ·have HP:=hhh (HPm.o.trans (ifp (by rw [hu];simp)))
    clear HPm hu HNb;go_wp2_with (fail);refine bO (HF.out _ T5.o 4) (fun t=>T5.o.trans t) HP ?_;intro v w4 G;go_wp2;go_ret;exact G.out
  ·go_wp2_with (fail)
   refine (HX.out _).mono ?_;rintro e w3 ⟨rfl,rfl⟩;have HP:=hhh (HPd.o.trans (ifp (by rw [hk];simp)));clear HPd hk HX;go_wp2_with (fail);refine bO (HF.out _ T2.o 8) (fun t=>T2.o.trans t) HP ?_;intro v w4 G;go_wp2;go_ret;exact G.out
theorem pitem_160:jR p b h w 160 191 true:=by
 intro N D K O L HF HF0 HD HA HFu HV HLe HCo HLo HX HK HKh hltI HNl eA eB eX eW HDl HPh HNb;have q0:((N:Int) == 193)=false:=by rw [bfn];have:=HNb.out;omega
 go_enter func203,ntmps203;go_wp2_with (fail);refine HD.out.mono ?_;rintro e w1 ⟨rfl,rfl⟩
 cases hd:p.c.done
 case true =>
  have HP:=hhh (HPh.out.trans (ifp (.inl hd)));clear HPh hd;go_wp2_with (fail);refine bO (HF0.out 2) (fun t=>t) HP ?_;intro v w4 G;go_wp2;go_ret;exact G.out
 case false =>
  have HPd:=hhh (HPh.out.trans (ifn (by rw [hd];first | (simp;done) | (have:=HNb.out;simp;omega))));clear HPh hd;go_wp2_with (fail);refine HA.out.mono ?_;rintro e w2 ⟨rfl,t2⟩;have T2:=hhh t2;clear t2
  cases hk:p.c.atKey
  ·have HPk:=hhh (HPd.o.trans (ifn (by rw [hk];simp)))
   clear HPd hk HX;have a1:¬ (199:Int) <= (N:Int):=by have:=HNb.out;omega
   have a3:¬ (212:Int) <= (N:Int):=by have:=HNb.out;omega
   have a5:((N:Int) == 202)=false:=by rw [bfn];have:=HNb.out;omega
   have a6:((N:Int) == 203)=false:=by rw [bfn];have:=HNb.out;omega
   have a7:¬ (N:Int) < 128:=by have:=HNb.out;omega
   have a8:¬ (224:Int) <= (N:Int):=by have:=HNb.out;omega
   have a9:¬ (N:Int) < 160:=by have:=HNb.out;omega
   have b2:(N:Int) < 192:=by have:=HNb.out;omega
   have HPl:=hhh (HPk.o.trans (ifn (by first | (have:=HNb.out;omega) | trivial | (simp;done))));clear HPk;have HPm:=hhh (HPl.o.trans (ifn (by first | (have:=HNb.out;omega) | trivial | (simp;done))));clear HPl;have hK:K=false:=by rw [HKh.out];have:=HNb.out;first | (simp;done) | (simp;omega)
   rw [hK] at HK HPm;clear hK HKh;go_wp2_with (fail);refine (HK.out _).mono ?_;rintro e w3 ⟨rfl,rfl⟩;have HPn:=hhh (HPm.o.trans (ifn (by simp)));clear HPm;have e1:((N % 32:Nat):Int)=(N:Int) % 32:=by omega
   have HC1:=HLe.out _ T2.o (N % 32);rw [e1] at HC1;have HC2:=hhh HC1;clear e1 HC1;have HP:=hhh ((((HPn.o.trans (ifn (by first | (have:=HNb.out;omega) | trivial | (simp;done)))).trans (ifn (by first | (have:=HNb.out;omega) | trivial | (simp;done)))).trans (ifn (by first | (have:=HNb.out;omega) | trivial | (simp;done)))).trans (ifp (by first | (have:=HNb.out;omega) | trivial | (simp;done))));clear HPn HNb;go_wp2_with (fail);refine bO (HC2.o) (fun t=>T2.o.trans t) HP ?_;intro v w4 G;go_wp2;go_ret;exact G.out
  ·go_wp2_with (fail)
   refine (HX.out _).mono ?_;rintro e w3 ⟨rfl,rfl⟩;have HPk:=hhh (HPd.o.trans (ifn (by simp)));clear HPd hk HX;have a1:¬ (199:Int) <= (N:Int):=by have:=HNb.out;omega
   have a3:¬ (212:Int) <= (N:Int):=by have:=HNb.out;omega
   have a5:((N:Int) == 202)=false:=by rw [bfn];have:=HNb.out;omega
   have a6:((N:Int) == 203)=false:=by rw [bfn];have:=HNb.out;omega
   have a7:¬ (N:Int) < 128:=by have:=HNb.out;omega
   have a8:¬ (224:Int) <= (N:Int):=by have:=HNb.out;omega
   have a9:¬ (N:Int) < 160:=by have:=HNb.out;omega
   have b2:(N:Int) < 192:=by have:=HNb.out;omega
   have HPl:=hhh (HPk.o.trans (ifn (by first | (have:=HNb.out;omega) | trivial | (simp;done))));clear HPk;have HPm:=hhh (HPl.o.trans (ifn (by first | (have:=HNb.out;omega) | trivial | (simp;done))));clear HPl;have hK:K=false:=by rw [HKh.out];have:=HNb.out;first | (simp;done) | (simp;omega)
   rw [hK] at HK HPm;clear hK HKh;go_wp2_with (fail);refine (HK.out _).mono ?_;rintro e w3 ⟨rfl,rfl⟩;have HPn:=hhh (HPm.o.trans (ifn (by simp)));clear HPm;have e1:((N % 32:Nat):Int)=(N:Int) % 32:=by omega
   have HC1:=HLe.out _ T2.o (N % 32);rw [e1] at HC1;have HC2:=hhh HC1;clear e1 HC1;have HP:=hhh ((((HPn.o.trans (ifn (by first | (have:=HNb.out;omega) | trivial | (simp;done)))).trans (ifn (by first | (have:=HNb.out;omega) | trivial | (simp;done)))).trans (ifn (by first | (have:=HNb.out;omega) | trivial | (simp;done)))).trans (ifp (by first | (have:=HNb.out;omega) | trivial | (simp;done))));clear HPn HNb;go_wp2_with (fail);refine bO (HC2.o) (fun t=>T2.o.trans t) HP ?_;intro v w4 G;go_wp2;go_ret;exact G.out
theorem pitem_192:jR p b h w 192 192 false:=by
 intro N D K O L HF HF0 HD HA HFu HV HLe HCo HLo HX HK HKh hltI HNl eA eB eX eW HDl HPh HNb;clear eA eB eX eW hltI HNl;obtain rfl:N=192:=by have:=HNb.out;omega
 simp only [Int.cast_ofNat_Int] at HX HK HLo |-;go_enter func203,ntmps203;go_wp2_with (fail);refine HD.out.mono ?_;rintro e w1 ⟨rfl,rfl⟩
 cases hd:p.c.done
 case true =>
  have HP:=hhh (HPh.out.trans (ifp (.inl hd)));clear HPh hd;go_wp2_with (fail);refine bO (HF0.out 2) (fun t=>t) HP ?_;intro v w4 G;go_wp2;go_ret;exact G.out
 case false =>
  have HPd:=hhh (HPh.out.trans (ifn (by rw [hd];first | (simp;done) | (have:=HNb.out;simp;omega))));clear HPh hd;go_wp2_with (fail);refine HA.out.mono ?_;rintro e w2 ⟨rfl,t2⟩;have T2:=hhh t2;clear t2
  cases hk:p.c.atKey
  ·have HPk:=hhh (HPd.o.trans (ifn (by rw [hk];simp)))
   clear HPd hk HX;have HPl:=hhh (HPk.o.trans (ifn (by first | (have:=HNb.out;omega) | trivial | (simp;done))));clear HPk;have HPm:=hhh (HPl.o.trans (ifn (by first | (have:=HNb.out;omega) | trivial | (simp;done))));clear HPl;have hK:K=false:=by rw [HKh.out];have:=HNb.out;first | (simp;done) | (simp;omega)
   rw [hK] at HK HPm;clear hK HKh;go_wp2_with (fail);refine (HK.out _).mono ?_;rintro e w3 ⟨rfl,rfl⟩;have HPn:=hhh (HPm.o.trans (ifn (by simp)));clear HPm;have HP:=hhh (((((HPn.o.trans (ifn (by first | (have:=HNb.out;omega) | trivial | (simp;done)))).trans (ifn (by first | (have:=HNb.out;omega) | trivial | (simp;done)))).trans (ifn (by first | (have:=HNb.out;omega) | trivial | (simp;done)))).trans (ifn (by first | (have:=HNb.out;omega) | trivial | (simp;done)))).trans (ifp (by first | (have:=HNb.out;omega) | trivial | (simp;done))));clear HPn HNb;go_wp2_with (fail);refine bO (HV.out _ T2.o .null) (fun t=>T2.o.trans t) HP ?_;intro v w4 G;go_wp2;go_ret;exact G.out
  ·go_wp2_with (fail)
   refine (HX.out _).mono ?_;rintro e w3 ⟨rfl,rfl⟩;have HP:=hhh (HPd.o.trans (ifp (by rw [hk];simp)));clear HPd hk HX;go_wp2_with (fail);refine bO (HF.out _ T2.o 8) (fun t=>T2.o.trans t) HP ?_;intro v w4 G;go_wp2;go_ret;exact G.out
end
end Pip
end
section
open Go.RowKit
open Json (Part)
namespace Pip
section
variable {p:Pin} {b:Nat} {h:Own.Heap} {w:World}
theorem pitem_193:jR p b h w 193 193 false:=by
 intro N D K O L HF HF0 HD HA HFu HV HLe HCo HLo HX HK HKh hltI HNl eA eB eX eW HDl HPh HNb;clear eA eB eX eW hltI HNl;obtain rfl:N=193:=by have:=HNb.out;omega
 simp only [Int.cast_ofNat_Int] at HX HK HLo |-;go_enter func203,ntmps203;go_wp2_with (fail);refine HD.out.mono ?_;rintro e w1 ⟨rfl,rfl⟩
 cases hd:p.c.done
 case true =>
  have HP:=hhh (HPh.out.trans (ifp (.inl hd)));clear HPh hd;go_wp2_with (fail);refine bO (HF0.out 2) (fun t=>t) HP ?_;intro v w4 G;go_wp2;go_ret;exact G.out
 case false =>
  have HP:=hhh (HPh.out.trans (ifp (.inr (by first | (have:=HNb.out;omega) | trivial | (simp;done)))));clear HPh hd;go_wp2_with (fail);refine bO (HF0.out 2) (fun t=>t) HP ?_;intro v w4 G;go_wp2;go_ret;exact G.out
theorem pitem_194:jR p b h w 194 194 false:=by
 intro N D K O L HF HF0 HD HA HFu HV HLe HCo HLo HX HK HKh hltI HNl eA eB eX eW HDl HPh HNb;clear eA eB eX eW hltI HNl;obtain rfl:N=194:=by have:=HNb.out;omega
 simp only [Int.cast_ofNat_Int] at HX HK HLo |-;go_enter func203,ntmps203;go_wp2_with (fail);refine HD.out.mono ?_;rintro e w1 ⟨rfl,rfl⟩
 cases hd:p.c.done
 case true =>
  have HP:=hhh (HPh.out.trans (ifp (.inl hd)));clear HPh hd;go_wp2_with (fail);refine bO (HF0.out 2) (fun t=>t) HP ?_;intro v w4 G;go_wp2;go_ret;exact G.out
 case false =>
  have HPd:=hhh (HPh.out.trans (ifn (by rw [hd];first | (simp;done) | (have:=HNb.out;simp;omega))));clear HPh hd;go_wp2_with (fail);refine HA.out.mono ?_;rintro e w2 ⟨rfl,t2⟩;have T2:=hhh t2;clear t2
  cases hk:p.c.atKey
  ·have HPk:=hhh (HPd.o.trans (ifn (by rw [hk];simp)))
   clear HPd hk HX;have HPl:=hhh (HPk.o.trans (ifn (by first | (have:=HNb.out;omega) | trivial | (simp;done))));clear HPk;have HPm:=hhh (HPl.o.trans (ifn (by first | (have:=HNb.out;omega) | trivial | (simp;done))));clear HPl;have hK:K=false:=by rw [HKh.out];have:=HNb.out;first | (simp;done) | (simp;omega)
   rw [hK] at HK HPm;clear hK HKh;go_wp2_with (fail);refine (HK.out _).mono ?_;rintro e w3 ⟨rfl,rfl⟩;have HPn:=hhh (HPm.o.trans (ifn (by simp)));clear HPm;have HP:=hhh ((((((HPn.o.trans (ifn (by first | (have:=HNb.out;omega) | trivial | (simp;done)))).trans (ifn (by first | (have:=HNb.out;omega) | trivial | (simp;done)))).trans (ifn (by first | (have:=HNb.out;omega) | trivial | (simp;done)))).trans (ifn (by first | (have:=HNb.out;omega) | trivial | (simp;done)))).trans (ifn (by first | (have:=HNb.out;omega) | trivial | (simp;done)))).trans ((ifp (by first | (have:=HNb.out;omega) | trivial | (simp;done))).trans (show _=p.on (p.c.value (.bool false)) by first | rfl | (simp;done) | rw [show decide (194=195)=false by have:=HNb.out;first | (simp;done) | (simp;omega)])));clear HPn HNb;go_wp2_with (fail);refine bO (HV.out _ T2.o (.bool false)) (fun t=>T2.o.trans t) HP ?_;intro v w4 G;go_wp2;go_ret;exact G.out
  ·go_wp2_with (fail)
   refine (HX.out _).mono ?_;rintro e w3 ⟨rfl,rfl⟩;have HP:=hhh (HPd.o.trans (ifp (by rw [hk];simp)));clear HPd hk HX;go_wp2_with (fail);refine bO (HF.out _ T2.o 8) (fun t=>T2.o.trans t) HP ?_;intro v w4 G;go_wp2;go_ret;exact G.out
theorem pitem_195:jR p b h w 195 195 false:=by
 intro N D K O L HF HF0 HD HA HFu HV HLe HCo HLo HX HK HKh hltI HNl eA eB eX eW HDl HPh HNb;clear eA eB eX eW hltI HNl;obtain rfl:N=195:=by have:=HNb.out;omega
 simp only [Int.cast_ofNat_Int] at HX HK HLo |-;go_enter func203,ntmps203;go_wp2_with (fail);refine HD.out.mono ?_;rintro e w1 ⟨rfl,rfl⟩
 cases hd:p.c.done
 case true =>
  have HP:=hhh (HPh.out.trans (ifp (.inl hd)));clear HPh hd;go_wp2_with (fail);refine bO (HF0.out 2) (fun t=>t) HP ?_;intro v w4 G;go_wp2;go_ret;exact G.out
 case false =>
  have HPd:=hhh (HPh.out.trans (ifn (by rw [hd];first | (simp;done) | (have:=HNb.out;simp;omega))));clear HPh hd;go_wp2_with (fail);refine HA.out.mono ?_;rintro e w2 ⟨rfl,t2⟩;have T2:=hhh t2;clear t2
  cases hk:p.c.atKey
  ·have HPk:=hhh (HPd.o.trans (ifn (by rw [hk];simp)))
   clear HPd hk HX;have HPl:=hhh (HPk.o.trans (ifn (by first | (have:=HNb.out;omega) | trivial | (simp;done))));clear HPk;have HPm:=hhh (HPl.o.trans (ifn (by first | (have:=HNb.out;omega) | trivial | (simp;done))));clear HPl;have hK:K=false:=by rw [HKh.out];have:=HNb.out;first | (simp;done) | (simp;omega)
   rw [hK] at HK HPm;clear hK HKh;go_wp2_with (fail);refine (HK.out _).mono ?_;rintro e w3 ⟨rfl,rfl⟩;have HPn:=hhh (HPm.o.trans (ifn (by simp)));clear HPm;have HP:=hhh ((((((HPn.o.trans (ifn (by first | (have:=HNb.out;omega) | trivial | (simp;done)))).trans (ifn (by first | (have:=HNb.out;omega) | trivial | (simp;done)))).trans (ifn (by first | (have:=HNb.out;omega) | trivial | (simp;done)))).trans (ifn (by first | (have:=HNb.out;omega) | trivial | (simp;done)))).trans (ifn (by first | (have:=HNb.out;omega) | trivial | (simp;done)))).trans ((ifp (by first | (have:=HNb.out;omega) | trivial | (simp;done))).trans (show _=p.on (p.c.value (.bool true)) by first | rfl | (simp;done) | rw [show decide (195=195)=true by have:=HNb.out;first | (simp;done) | (simp;omega)])));clear HPn HNb;go_wp2_with (fail);refine bO (HV.out _ T2.o (.bool true)) (fun t=>T2.o.trans t) HP ?_;intro v w4 G;go_wp2;go_ret;exact G.out
  ·go_wp2_with (fail)
   refine (HX.out _).mono ?_;rintro e w3 ⟨rfl,rfl⟩;have HP:=hhh (HPd.o.trans (ifp (by rw [hk];simp)));clear HPd hk HX;go_wp2_with (fail);refine bO (HF.out _ T2.o 8) (fun t=>T2.o.trans t) HP ?_;intro v w4 G;go_wp2;go_ret;exact G.out
theorem pitem_196:jR p b h w 196 198 false:=by
 intro N D K O L HF HF0 HD HA HFu HV HLe HCo HLo HX HK HKh hltI HNl eA eB eX eW HDl HPh HNb;have q0:((N:Int) == 193)=false:=by rw [bfn];have:=HNb.out;omega
 go_enter func203,ntmps203;go_wp2_with (fail);refine HD.out.mono ?_;rintro e w1 ⟨rfl,rfl⟩
 cases hd:p.c.done
 case true =>
  have HP:=hhh (HPh.out.trans (ifp (.inl hd)));clear HPh hd;go_wp2_with (fail);refine bO (HF0.out 2) (fun t=>t) HP ?_;intro v w4 G;go_wp2;go_ret;exact G.out
 case false =>
  have HPd:=hhh (HPh.out.trans (ifn (by rw [hd];first | (simp;done) | (have:=HNb.out;simp;omega))));clear HPh hd;go_wp2_with (fail);refine HA.out.mono ?_;rintro e w2 ⟨rfl,t2⟩;have T2:=hhh t2;clear t2
  cases hk:p.c.atKey
  ·have HPk:=hhh (HPd.o.trans (ifn (by rw [hk];simp)))
   clear HPd hk HX;have a1:¬ (199:Int) <= (N:Int):=by have:=HNb.out;omega
   have a3:¬ (212:Int) <= (N:Int):=by have:=HNb.out;omega
   have a5:((N:Int) == 202)=false:=by rw [bfn];have:=HNb.out;omega
   have a6:((N:Int) == 203)=false:=by rw [bfn];have:=HNb.out;omega
   have a7:¬ (N:Int) < 128:=by have:=HNb.out;omega
   have a8:¬ (224:Int) <= (N:Int):=by have:=HNb.out;omega
   have a9:¬ (N:Int) < 160:=by have:=HNb.out;omega
   have b2:¬ (N:Int) < 192:=by have:=HNb.out;omega
   have b3:((N:Int) == 192)=false:=by rw [bfn];have:=HNb.out;omega
   have b4:¬ (N:Int) <= 195:=by have:=HNb.out;omega
   have b5:((N:Int) == 195)=false:=by rw [bfn];have:=HNb.out;omega
   have HPl:=hhh (HPk.o.trans (ifn (by first | (have:=HNb.out;omega) | trivial | (simp;done))));clear HPk;have HPm:=hhh (HPl.o.trans (ifn (by first | (have:=HNb.out;omega) | trivial | (simp;done))));clear HPl;have hK:K=false:=by rw [HKh.out];have:=HNb.out;first | (simp;done) | (simp;omega)
   rw [hK] at HK HPm;clear hK HKh;go_wp2_with (fail);refine (HK.out _).mono ?_;rintro e w3 ⟨rfl,rfl⟩;have HPn:=hhh (HPm.o.trans (ifn (by simp)));clear HPm;have HC2:=hhh (HLo.out _ T2.o (by first | (have:=HNb.out;omega) | trivial | (simp;done)) (by first | (have:=HNb.out;omega) | trivial | (simp;done)) (by first | (have:=HNb.out;omega) | trivial | (simp;done)) (by first | (have:=HNb.out;omega) | trivial | (simp;done)));have HP:=hhh ((((((HPn.o.trans (ifn (by first | (have:=HNb.out;omega) | trivial | (simp;done)))).trans (ifn (by first | (have:=HNb.out;omega) | trivial | (simp;done)))).trans (ifn (by first | (have:=HNb.out;omega) | trivial | (simp;done)))).trans (ifn (by first | (have:=HNb.out;omega) | trivial | (simp;done)))).trans (ifn (by first | (have:=HNb.out;omega) | trivial | (simp;done)))).trans (ifn (by first | (have:=HNb.out;omega) | trivial | (simp;done))));clear HPn HNb;go_wp2_with (fail);refine dM (HC2.o) (fun t=>T2.o.trans t) HP ?_;intro v w4 G;go_wp2;go_ret;exact G.out
  ·go_wp2_with (fail)
   refine (HX.out _).mono ?_;rintro e w3 ⟨rfl,rfl⟩;have HP:=hhh (HPd.o.trans (ifp (by rw [hk];simp)));clear HPd hk HX;go_wp2_with (fail);refine bO (HF.out _ T2.o 8) (fun t=>T2.o.trans t) HP ?_;intro v w4 G;go_wp2;go_ret;exact G.out
theorem pitem_199:jR p b h w 199 201 false:=by
 intro N D K O L HF HF0 HD HA HFu HV HLe HCo HLo HX HK HKh hltI HNl eA eB eX eW HDl HPh HNb;have q0:((N:Int) == 193)=false:=by rw [bfn];have:=HNb.out;omega
 go_enter func203,ntmps203;go_wp2_with (fail);refine HD.out.mono ?_;rintro e w1 ⟨rfl,rfl⟩
 cases hd:p.c.done
 case true =>
  have HP:=hhh (HPh.out.trans (ifp (.inl hd)));clear HPh hd;go_wp2_with (fail);refine bO (HF0.out 2) (fun t=>t) HP ?_;intro v w4 G;go_wp2;go_ret;exact G.out
 case false =>
  have HPd:=hhh (HPh.out.trans (ifn (by rw [hd];first | (simp;done) | (have:=HNb.out;simp;omega))));clear HPh hd;go_wp2_with (fail);refine HA.out.mono ?_;rintro e w2 ⟨rfl,t2⟩;have T2:=hhh t2;clear t2
  cases hk:p.c.atKey
  ·have HPk:=hhh (HPd.o.trans (ifn (by rw [hk];simp)))
   clear HPd hk HX;have a1:(199:Int) <= (N:Int):=by have:=HNb.out;omega
   have a2:(N:Int) <= 201:=by have:=HNb.out;omega
   have HP:=hhh (HPk.o.trans (ifp (by first | (have:=HNb.out;omega) | trivial | (simp;done))));clear HPk HNb;go_wp2_with (fail);refine bO (HF.out _ T2.o 8) (fun t=>T2.o.trans t) HP ?_;intro v w4 G;go_wp2;go_ret;exact G.out
  ·go_wp2_with (fail)
   refine (HX.out _).mono ?_;rintro e w3 ⟨rfl,rfl⟩;have HP:=hhh (HPd.o.trans (ifp (by rw [hk];simp)));clear HPd hk HX;go_wp2_with (fail);refine bO (HF.out _ T2.o 8) (fun t=>T2.o.trans t) HP ?_;intro v w4 G;go_wp2;go_ret;exact G.out
theorem pitem_202:jR p b h w 202 202 false:=by
 intro N D K O L HF HF0 HD HA HFu HV HLe HCo HLo HX HK HKh hltI HNl eA eB eX eW HDl HPh HNb;clear eA eB eX eW hltI HNl;obtain rfl:N=202:=by have:=HNb.out;omega
 simp only [Int.cast_ofNat_Int] at HX HK HLo |-;go_enter func203,ntmps203;go_wp2_with (fail);refine HD.out.mono ?_;rintro e w1 ⟨rfl,rfl⟩
 cases hd:p.c.done
 case true =>
  have HP:=hhh (HPh.out.trans (ifp (.inl hd)));clear HPh hd;go_wp2_with (fail);refine bO (HF0.out 2) (fun t=>t) HP ?_;intro v w4 G;go_wp2;go_ret;exact G.out
 case false =>
  have HPd:=hhh (HPh.out.trans (ifn (by rw [hd];first | (simp;done) | (have:=HNb.out;simp;omega))));clear HPh hd;go_wp2_with (fail);refine HA.out.mono ?_;rintro e w2 ⟨rfl,t2⟩;have T2:=hhh t2;clear t2
  cases hk:p.c.atKey
  ·have HPk:=hhh (HPd.o.trans (ifn (by rw [hk];simp)))
   clear HPd hk HX;have HPl:=hhh (HPk.o.trans (ifn (by first | (have:=HNb.out;omega) | trivial | (simp;done))));clear HPk;have HP:=hhh (HPl.o.trans (ifp (by first | (have:=HNb.out;omega) | trivial | (simp;done))));clear HPl HNb;go_wp2_with (fail);refine bO (HF.out _ T2.o 6) (fun t=>T2.o.trans t) HP ?_;intro v w4 G;go_wp2;go_ret;exact G.out
  ·go_wp2_with (fail)
   refine (HX.out _).mono ?_;rintro e w3 ⟨rfl,rfl⟩;have HP:=hhh (HPd.o.trans (ifp (by rw [hk];simp)));clear HPd hk HX;go_wp2_with (fail);refine bO (HF.out _ T2.o 8) (fun t=>T2.o.trans t) HP ?_;intro v w4 G;go_wp2;go_ret;exact G.out
end
end Pip
end
section
open Go.RowKit
open Json (Part)
namespace Pip
section
variable {p:Pin} {b:Nat} {h:Own.Heap} {w:World}
theorem pitem_203:jR p b h w 203 203 false:=by
 intro N D K O L HF HF0 HD HA HFu HV HLe HCo HLo HX HK HKh hltI HNl eA eB eX eW HDl HPh HNb;clear eA eB eX eW hltI HNl;obtain rfl:N=203:=by have:=HNb.out;omega
 simp only [Int.cast_ofNat_Int] at HX HK HLo |-;go_enter func203,ntmps203;go_wp2_with (fail);refine HD.out.mono ?_;rintro e w1 ⟨rfl,rfl⟩
 cases hd:p.c.done
 case true =>
  have HP:=hhh (HPh.out.trans (ifp (.inl hd)));clear HPh hd;go_wp2_with (fail);refine bO (HF0.out 2) (fun t=>t) HP ?_;intro v w4 G;go_wp2;go_ret;exact G.out
 case false =>
  have HPd:=hhh (HPh.out.trans (ifn (by rw [hd];first | (simp;done) | (have:=HNb.out;simp;omega))));clear HPh hd;go_wp2_with (fail);refine HA.out.mono ?_;rintro e w2 ⟨rfl,t2⟩;have T2:=hhh t2;clear t2
  cases hk:p.c.atKey
  ·have HPk:=hhh (HPd.o.trans (ifn (by rw [hk];simp)))
   clear HPd hk HX;have HPl:=hhh (HPk.o.trans (ifn (by first | (have:=HNb.out;omega) | trivial | (simp;done))));clear HPk;have HP:=hhh (HPl.o.trans (ifp (by first | (have:=HNb.out;omega) | trivial | (simp;done))));clear HPl HNb;go_wp2_with (fail);refine bO (HF.out _ T2.o 6) (fun t=>T2.o.trans t) HP ?_;intro v w4 G;go_wp2;go_ret;exact G.out
  ·go_wp2_with (fail)
   refine (HX.out _).mono ?_;rintro e w3 ⟨rfl,rfl⟩;have HP:=hhh (HPd.o.trans (ifp (by rw [hk];simp)));clear HPd hk HX;go_wp2_with (fail);refine bO (HF.out _ T2.o 8) (fun t=>T2.o.trans t) HP ?_;intro v w4 G;go_wp2;go_ret;exact G.out
theorem pitem_204:jR p b h w 204 211 false:=by
 intro N D K O L HF HF0 HD HA HFu HV HLe HCo HLo HX HK HKh hltI HNl eA eB eX eW HDl HPh HNb;have q0:((N:Int) == 193)=false:=by rw [bfn];have:=HNb.out;omega
 go_enter func203,ntmps203;go_wp2_with (fail);refine HD.out.mono ?_;rintro e w1 ⟨rfl,rfl⟩
 cases hd:p.c.done
 case true =>
  have HP:=hhh (HPh.out.trans (ifp (.inl hd)));clear HPh hd;go_wp2_with (fail);refine bO (HF0.out 2) (fun t=>t) HP ?_;intro v w4 G;go_wp2;go_ret;exact G.out
 case false =>
  have HPd:=hhh (HPh.out.trans (ifn (by rw [hd];first | (simp;done) | (have:=HNb.out;simp;omega))));clear HPh hd;go_wp2_with (fail);refine HA.out.mono ?_;rintro e w2 ⟨rfl,t2⟩;have T2:=hhh t2;clear t2
  cases hk:p.c.atKey
  ·have HPk:=hhh (HPd.o.trans (ifn (by rw [hk];simp)))
   clear HPd hk HX;have a1:(199:Int) <= (N:Int):=by have:=HNb.out;omega
   have a2:¬ (N:Int) <= 201:=by have:=HNb.out;omega
   have a3:¬ (212:Int) <= (N:Int):=by have:=HNb.out;omega
   have a5:((N:Int) == 202)=false:=by rw [bfn];have:=HNb.out;omega
   have a6:((N:Int) == 203)=false:=by rw [bfn];have:=HNb.out;omega
   have a7:¬ (N:Int) < 128:=by have:=HNb.out;omega
   have a8:¬ (224:Int) <= (N:Int):=by have:=HNb.out;omega
   have a9:¬ (N:Int) < 160:=by have:=HNb.out;omega
   have b2:¬ (N:Int) < 192:=by have:=HNb.out;omega
   have b3:((N:Int) == 192)=false:=by rw [bfn];have:=HNb.out;omega
   have b4:¬ (N:Int) <= 195:=by have:=HNb.out;omega
   have b5:((N:Int) == 195)=false:=by rw [bfn];have:=HNb.out;omega
   have HPl:=hhh (HPk.o.trans (ifn (by first | (have:=HNb.out;omega) | trivial | (simp;done))));clear HPk;have HPm:=hhh (HPl.o.trans (ifn (by first | (have:=HNb.out;omega) | trivial | (simp;done))));clear HPl;have hK:K=false:=by rw [HKh.out];have:=HNb.out;first | (simp;done) | (simp;omega)
   rw [hK] at HK HPm;clear hK HKh;go_wp2_with (fail);refine (HK.out _).mono ?_;rintro e w3 ⟨rfl,rfl⟩;have HPn:=hhh (HPm.o.trans (ifn (by simp)));clear HPm;have HC2:=hhh (HLo.out _ T2.o (by first | (have:=HNb.out;omega) | trivial | (simp;done)) (by first | (have:=HNb.out;omega) | trivial | (simp;done)) (by first | (have:=HNb.out;omega) | trivial | (simp;done)) (by first | (have:=HNb.out;omega) | trivial | (simp;done)));have HP:=hhh ((((((HPn.o.trans (ifn (by first | (have:=HNb.out;omega) | trivial | (simp;done)))).trans (ifn (by first | (have:=HNb.out;omega) | trivial | (simp;done)))).trans (ifn (by first | (have:=HNb.out;omega) | trivial | (simp;done)))).trans (ifn (by first | (have:=HNb.out;omega) | trivial | (simp;done)))).trans (ifn (by first | (have:=HNb.out;omega) | trivial | (simp;done)))).trans (ifn (by first | (have:=HNb.out;omega) | trivial | (simp;done))));clear HPn HNb;go_wp2_with (fail);refine dM (HC2.o) (fun t=>T2.o.trans t) HP ?_;intro v w4 G;go_wp2;go_ret;exact G.out
  ·go_wp2_with (fail)
   refine (HX.out _).mono ?_;rintro e w3 ⟨rfl,rfl⟩;have HP:=hhh (HPd.o.trans (ifp (by rw [hk];simp)));clear HPd hk HX;go_wp2_with (fail);refine bO (HF.out _ T2.o 8) (fun t=>T2.o.trans t) HP ?_;intro v w4 G;go_wp2;go_ret;exact G.out
theorem pitem_212:jR p b h w 212 216 false:=by
 intro N D K O L HF HF0 HD HA HFu HV HLe HCo HLo HX HK HKh hltI HNl eA eB eX eW HDl HPh HNb;have q0:((N:Int) == 193)=false:=by rw [bfn];have:=HNb.out;omega
 go_enter func203,ntmps203;go_wp2_with (fail);refine HD.out.mono ?_;rintro e w1 ⟨rfl,rfl⟩
 cases hd:p.c.done
 case true =>
  have HP:=hhh (HPh.out.trans (ifp (.inl hd)));clear HPh hd;go_wp2_with (fail);refine bO (HF0.out 2) (fun t=>t) HP ?_;intro v w4 G;go_wp2;go_ret;exact G.out
 case false =>
  have HPd:=hhh (HPh.out.trans (ifn (by rw [hd];first | (simp;done) | (have:=HNb.out;simp;omega))));clear HPh hd;go_wp2_with (fail);refine HA.out.mono ?_;rintro e w2 ⟨rfl,t2⟩;have T2:=hhh t2;clear t2
  cases hk:p.c.atKey
  ·have HPk:=hhh (HPd.o.trans (ifn (by rw [hk];simp)))
   clear HPd hk HX;have a1:(199:Int) <= (N:Int):=by have:=HNb.out;omega
   have a2:¬ (N:Int) <= 201:=by have:=HNb.out;omega
   have a3:(212:Int) <= (N:Int):=by have:=HNb.out;omega
   have a4:(N:Int) <= 216:=by have:=HNb.out;omega
   have HP:=hhh (HPk.o.trans (ifp (by first | (have:=HNb.out;omega) | trivial | (simp;done))));clear HPk HNb;go_wp2_with (fail);refine bO (HF.out _ T2.o 8) (fun t=>T2.o.trans t) HP ?_;intro v w4 G;go_wp2;go_ret;exact G.out
  ·go_wp2_with (fail)
   refine (HX.out _).mono ?_;rintro e w3 ⟨rfl,rfl⟩;have HP:=hhh (HPd.o.trans (ifp (by rw [hk];simp)));clear HPd hk HX;go_wp2_with (fail);refine bO (HF.out _ T2.o 8) (fun t=>T2.o.trans t) HP ?_;intro v w4 G;go_wp2;go_ret;exact G.out
theorem pitem_217:jR p b h w 217 219 true:=by
 intro N D K O L HF HF0 HD HA HFu HV HLe HCo HLo HX HK HKh hltI HNl eA eB eX eW HDl HPh HNb;have q0:((N:Int) == 193)=false:=by rw [bfn];have:=HNb.out;omega
 go_enter func203,ntmps203;go_wp2_with (fail);refine HD.out.mono ?_;rintro e w1 ⟨rfl,rfl⟩
 cases hd:p.c.done
 case true =>
  have HP:=hhh (HPh.out.trans (ifp (.inl hd)));clear HPh hd;go_wp2_with (fail);refine bO (HF0.out 2) (fun t=>t) HP ?_;intro v w4 G;go_wp2;go_ret;exact G.out
 case false =>
  have HPd:=hhh (HPh.out.trans (ifn (by rw [hd];first | (simp;done) | (have:=HNb.out;simp;omega))));clear HPh hd;go_wp2_with (fail);refine HA.out.mono ?_;rintro e w2 ⟨rfl,t2⟩;have T2:=hhh t2;clear t2
  cases hk:p.c.atKey
  ·have HPk:=hhh (HPd.o.trans (ifn (by rw [hk];simp)))
   clear HPd hk HX;have a1:(199:Int) <= (N:Int):=by have:=HNb.out;omega
   have a2:¬ (N:Int) <= 201:=by have:=HNb.out;omega
   have a3:(212:Int) <= (N:Int):=by have:=HNb.out;omega
   have a4:¬ (N:Int) <= 216:=by have:=HNb.out;omega
   have a5:((N:Int) == 202)=false:=by rw [bfn];have:=HNb.out;omega
   have a6:((N:Int) == 203)=false:=by rw [bfn];have:=HNb.out;omega
   have a7:¬ (N:Int) < 128:=by have:=HNb.out;omega
   have a8:¬ (224:Int) <= (N:Int):=by have:=HNb.out;omega
   have a9:¬ (N:Int) < 160:=by have:=HNb.out;omega
   have b2:¬ (N:Int) < 192:=by have:=HNb.out;omega
   have b3:((N:Int) == 192)=false:=by rw [bfn];have:=HNb.out;omega
   have b4:¬ (N:Int) <= 195:=by have:=HNb.out;omega
   have b5:((N:Int) == 195)=false:=by rw [bfn];have:=HNb.out;omega
   have HPl:=hhh (HPk.o.trans (ifn (by first | (have:=HNb.out;omega) | trivial | (simp;done))));clear HPk;have HPm:=hhh (HPl.o.trans (ifn (by first | (have:=HNb.out;omega) | trivial | (simp;done))));clear HPl;have hK:K=false:=by rw [HKh.out];have:=HNb.out;first | (simp;done) | (simp;omega)
   rw [hK] at HK HPm;clear hK HKh;go_wp2_with (fail);refine (HK.out _).mono ?_;rintro e w3 ⟨rfl,rfl⟩;have HPn:=hhh (HPm.o.trans (ifn (by simp)));clear HPm;have HC2:=hhh (HLo.out _ T2.o (by first | (have:=HNb.out;omega) | trivial | (simp;done)) (by first | (have:=HNb.out;omega) | trivial | (simp;done)) (by first | (have:=HNb.out;omega) | trivial | (simp;done)) (by first | (have:=HNb.out;omega) | trivial | (simp;done)));have HP:=hhh ((((((HPn.o.trans (ifn (by first | (have:=HNb.out;omega) | trivial | (simp;done)))).trans (ifn (by first | (have:=HNb.out;omega) | trivial | (simp;done)))).trans (ifn (by first | (have:=HNb.out;omega) | trivial | (simp;done)))).trans (ifn (by first | (have:=HNb.out;omega) | trivial | (simp;done)))).trans (ifn (by first | (have:=HNb.out;omega) | trivial | (simp;done)))).trans (ifn (by first | (have:=HNb.out;omega) | trivial | (simp;done))));clear HPn HNb;go_wp2_with (fail);refine dM (HC2.o) (fun t=>T2.o.trans t) HP ?_;intro v w4 G;go_wp2;go_ret;exact G.out
  ·go_wp2_with (fail)
   refine (HX.out _).mono ?_;rintro e w3 ⟨rfl,rfl⟩;have HPk:=hhh (HPd.o.trans (ifn (by simp)));clear HPd hk HX;have a1:(199:Int) <= (N:Int):=by have:=HNb.out;omega
   have a2:¬ (N:Int) <= 201:=by have:=HNb.out;omega
   have a3:(212:Int) <= (N:Int):=by have:=HNb.out;omega
   have a4:¬ (N:Int) <= 216:=by have:=HNb.out;omega
   have a5:((N:Int) == 202)=false:=by rw [bfn];have:=HNb.out;omega
   have a6:((N:Int) == 203)=false:=by rw [bfn];have:=HNb.out;omega
   have a7:¬ (N:Int) < 128:=by have:=HNb.out;omega
   have a8:¬ (224:Int) <= (N:Int):=by have:=HNb.out;omega
   have a9:¬ (N:Int) < 160:=by have:=HNb.out;omega
   have b2:¬ (N:Int) < 192:=by have:=HNb.out;omega
   have b3:((N:Int) == 192)=false:=by rw [bfn];have:=HNb.out;omega
   have b4:¬ (N:Int) <= 195:=by have:=HNb.out;omega
   have b5:((N:Int) == 195)=false:=by rw [bfn];have:=HNb.out;omega
   have HPl:=hhh (HPk.o.trans (ifn (by first | (have:=HNb.out;omega) | trivial | (simp;done))));clear HPk;have HPm:=hhh (HPl.o.trans (ifn (by first | (have:=HNb.out;omega) | trivial | (simp;done))));clear HPl;have hK:K=false:=by rw [HKh.out];have:=HNb.out;first | (simp;done) | (simp;omega)
   rw [hK] at HK HPm;clear hK HKh;go_wp2_with (fail);refine (HK.out _).mono ?_;rintro e w3 ⟨rfl,rfl⟩;have HPn:=hhh (HPm.o.trans (ifn (by simp)));clear HPm;have HC2:=hhh (HLo.out _ T2.o (by first | (have:=HNb.out;omega) | trivial | (simp;done)) (by first | (have:=HNb.out;omega) | trivial | (simp;done)) (by first | (have:=HNb.out;omega) | trivial | (simp;done)) (by first | (have:=HNb.out;omega) | trivial | (simp;done)));have HP:=hhh ((((((HPn.o.trans (ifn (by first | (have:=HNb.out;omega) | trivial | (simp;done)))).trans (ifn (by first | (have:=HNb.out;omega) | trivial | (simp;done)))).trans (ifn (by first | (have:=HNb.out;omega) | trivial | (simp;done)))).trans (ifn (by first | (have:=HNb.out;omega) | trivial | (simp;done)))).trans (ifn (by first | (have:=HNb.out;omega) | trivial | (simp;done)))).trans (ifn (by first | (have:=HNb.out;omega) | trivial | (simp;done))));clear HPn HNb;go_wp2_with (fail);refine dM (HC2.o) (fun t=>T2.o.trans t) HP ?_;intro v w4 G;go_wp2;go_ret;exact G.out
theorem pitem_220:jR p b h w 220 223 false:=by
 intro N D K O L HF HF0 HD HA HFu HV HLe HCo HLo HX HK HKh hltI HNl eA eB eX eW HDl HPh HNb;have q0:((N:Int) == 193)=false:=by rw [bfn];have:=HNb.out;omega
 go_enter func203,ntmps203;go_wp2_with (fail);refine HD.out.mono ?_;rintro e w1 ⟨rfl,rfl⟩
 cases hd:p.c.done
 case true =>
  have HP:=hhh (HPh.out.trans (ifp (.inl hd)));clear HPh hd;go_wp2_with (fail);refine bO (HF0.out 2) (fun t=>t) HP ?_;intro v w4 G;go_wp2;go_ret;exact G.out
 case false =>
  have HPd:=hhh (HPh.out.trans (ifn (by rw [hd];first | (simp;done) | (have:=HNb.out;simp;omega))));clear HPh hd;go_wp2_with (fail);refine HA.out.mono ?_;rintro e w2 ⟨rfl,t2⟩;have T2:=hhh t2;clear t2
  cases hk:p.c.atKey
  ·have HPk:=hhh (HPd.o.trans (ifn (by rw [hk];simp)))
   clear HPd hk HX;have a1:(199:Int) <= (N:Int):=by have:=HNb.out;omega
   have a2:¬ (N:Int) <= 201:=by have:=HNb.out;omega
   have a3:(212:Int) <= (N:Int):=by have:=HNb.out;omega
   have a4:¬ (N:Int) <= 216:=by have:=HNb.out;omega
   have a5:((N:Int) == 202)=false:=by rw [bfn];have:=HNb.out;omega
   have a6:((N:Int) == 203)=false:=by rw [bfn];have:=HNb.out;omega
   have a7:¬ (N:Int) < 128:=by have:=HNb.out;omega
   have a8:¬ (224:Int) <= (N:Int):=by have:=HNb.out;omega
   have a9:¬ (N:Int) < 160:=by have:=HNb.out;omega
   have b2:¬ (N:Int) < 192:=by have:=HNb.out;omega
   have b3:((N:Int) == 192)=false:=by rw [bfn];have:=HNb.out;omega
   have b4:¬ (N:Int) <= 195:=by have:=HNb.out;omega
   have b5:((N:Int) == 195)=false:=by rw [bfn];have:=HNb.out;omega
   have HPl:=hhh (HPk.o.trans (ifn (by first | (have:=HNb.out;omega) | trivial | (simp;done))));clear HPk;have HPm:=hhh (HPl.o.trans (ifn (by first | (have:=HNb.out;omega) | trivial | (simp;done))));clear HPl;have hK:K=true:=by rw [HKh.out];have:=HNb.out;first | (simp;done) | (simp;omega)
   rw [hK] at HK HPm;clear hK HKh;go_wp2_with (fail);refine (HK.out _).mono ?_;rintro e w3 ⟨rfl,rfl⟩;go_wp2_with (fail);refine (HFu.out _ T2.o).mono ?_;rintro e w5 ⟨rfl,t5⟩;have T5:=hhh (T2.o.trans t5);clear t5
   cases hu:p.c.full
   ·have HPn:=hhh (HPm.o.trans (ifn (by rw [hu];simp)))
    clear HPm hu;have HC2:=hhh (HLo.out _ T5.o (by first | (have:=HNb.out;omega) | trivial | (simp;done)) (by first | (have:=HNb.out;omega) | trivial | (simp;done)) (by first | (have:=HNb.out;omega) | trivial | (simp;done)) (by first | (have:=HNb.out;omega) | trivial | (simp;done)));have HP:=hhh ((((((HPn.o.trans (ifn (by first | (have:=HNb.out;omega) | trivial | (simp;done)))).trans (ifn (by first | (have:=HNb.out;omega) | trivial | (simp;done)))).trans (ifn (by first | (have:=HNb.out;omega) | trivial | (simp;done)))).trans (ifn (by first | (have:=HNb.out;omega) | trivial | (simp;done)))).trans (ifn (by first | (have:=HNb.out;omega) | trivial | (simp;done)))).trans (ifn (by first | (have:=HNb.out;omega) | trivial | (simp;done))));clear HPn HNb;go_wp2_with (fail);refine dM (HC2.o) (fun t=>T5.o.trans t) HP ?_;intro v w4 G;go_wp2;go_ret;exact G.out
   ·have HP:=hhh (HPm.o.trans (ifp (by rw [hu];simp)))
    clear HPm hu HNb;go_wp2_with (fail);refine bO (HF.out _ T5.o 4) (fun t=>T5.o.trans t) HP ?_;intro v w4 G;go_wp2;go_ret;exact G.out
  ·go_wp2_with (fail)
   refine (HX.out _).mono ?_;rintro e w3 ⟨rfl,rfl⟩;have HP:=hhh (HPd.o.trans (ifp (by rw [hk];simp)));clear HPd hk HX;go_wp2_with (fail);refine bO (HF.out _ T2.o 8) (fun t=>T2.o.trans t) HP ?_;intro v w4 G;go_wp2;go_ret;exact G.out
theorem pitem_224:jR p b h w 224 255 false:=by
 intro N D K O L HF HF0 HD HA HFu HV HLe HCo HLo HX HK HKh hltI HNl eA eB eX eW HDl HPh HNb;have q0:((N:Int) == 193)=false:=by rw [bfn];have:=HNb.out;omega
 go_enter func203,ntmps203;go_wp2_with (fail);refine HD.out.mono ?_;rintro e w1 ⟨rfl,rfl⟩
 cases hd:p.c.done
 case true =>
  have HP:=hhh (HPh.out.trans (ifp (.inl hd)));clear HPh hd;go_wp2_with (fail);refine bO (HF0.out 2) (fun t=>t) HP ?_;intro v w4 G;go_wp2;go_ret;exact G.out
 case false =>
  have HPd:=hhh (HPh.out.trans (ifn (by rw [hd];first | (simp;done) | (have:=HNb.out;simp;omega))));clear HPh hd;go_wp2_with (fail);refine HA.out.mono ?_;rintro e w2 ⟨rfl,t2⟩;have T2:=hhh t2;clear t2
  cases hk:p.c.atKey
  ·have HPk:=hhh (HPd.o.trans (ifn (by rw [hk];simp)))
   clear HPd hk HX;have a1:(199:Int) <= (N:Int):=by have:=HNb.out;omega
   have a2:¬ (N:Int) <= 201:=by have:=HNb.out;omega
   have a3:(212:Int) <= (N:Int):=by have:=HNb.out;omega
   have a4:¬ (N:Int) <= 216:=by have:=HNb.out;omega
   have a5:((N:Int) == 202)=false:=by rw [bfn];have:=HNb.out;omega
   have a6:((N:Int) == 203)=false:=by rw [bfn];have:=HNb.out;omega
   have a7:¬ (N:Int) < 128:=by have:=HNb.out;omega
   have a8:(224:Int) <= (N:Int):=by have:=HNb.out;omega
   have HPl:=hhh (HPk.o.trans (ifn (by first | (have:=HNb.out;omega) | trivial | (simp;done))));clear HPk;have HPm:=hhh (HPl.o.trans (ifn (by first | (have:=HNb.out;omega) | trivial | (simp;done))));clear HPl;have hK:K=false:=by rw [HKh.out];have:=HNb.out;first | (simp;done) | (simp;omega)
   rw [hK] at HK HPm;clear hK HKh;go_wp2_with (fail);refine (HK.out _).mono ?_;rintro e w3 ⟨rfl,rfl⟩;have HPn:=hhh (HPm.o.trans (ifn (by simp)));clear HPm;have HP:=hhh ((HPn.o.trans (ifn (by first | (have:=HNb.out;omega) | trivial | (simp;done)))).trans (ifp (by first | (have:=HNb.out;omega) | trivial | (simp;done))));clear HPn HNb;go_wp2_with (fail);refine bO (HV.out _ T2.o (.whole true D)) (fun t=>T2.o.trans t) HP ?_;intro v w4 G;go_wp2;go_ret;exact G.out
  ·go_wp2_with (fail)
   refine (HX.out _).mono ?_;rintro e w3 ⟨rfl,rfl⟩;have HP:=hhh (HPd.o.trans (ifp (by rw [hk];simp)));clear HPd hk HX;go_wp2_with (fail);refine bO (HF.out _ T2.o 8) (fun t=>T2.o.trans t) HP ?_;intro v w4 G;go_wp2;go_ret;exact G.out
end
end Pip
end
section
open Go.RowKit
open Json (Part)
namespace Pip
section
variable {p:Pin} {b:Nat} {h:Own.Heap} {w:World}
theorem aEg {n : Nat} (hi : p.Is b h) (hw : Own.Has w h) (hf : p.Fits n) (hn : n ≤ 1000000) (x : UInt8) :
  Calls prog 203 #[.pointer (some ⟨b,0,none⟩),.int .u8 (x.toNat:Int)] w (bH (p.item x) b h w):=by
 have hlt:=UInt8.toNat_lt x;by_cases g0:x.toNat <= 127
 ·exact cG hi hw hf hn x (by omega) g0 (by unfold cX;simp;omega) pitem_0
 by_cases g128:x.toNat <= 143
 ·exact cG hi hw hf hn x (by omega) g128 (by unfold cX;simp;omega) pitem_128
 by_cases g144:x.toNat <= 159
 ·exact cG hi hw hf hn x (by omega) g144 (by unfold cX;simp;omega) pitem_144
 by_cases g160:x.toNat <= 191
 ·exact cG hi hw hf hn x (by omega) g160 (by unfold cX;simp;omega) pitem_160
 by_cases g192:x.toNat <= 192
 ·exact cG hi hw hf hn x (by omega) g192 (by unfold cX;simp;omega) pitem_192
 by_cases g193:x.toNat <= 193
 ·exact cG hi hw hf hn x (by omega) g193 (by unfold cX;simp;omega) pitem_193
 by_cases g194:x.toNat <= 194
 ·exact cG hi hw hf hn x (by omega) g194 (by unfold cX;simp;omega) pitem_194
 by_cases g195:x.toNat <= 195
 ·exact cG hi hw hf hn x (by omega) g195 (by unfold cX;simp;omega) pitem_195
 by_cases g196:x.toNat <= 198
 ·exact cG hi hw hf hn x (by omega) g196 (by unfold cX;simp;omega) pitem_196
 by_cases g199:x.toNat <= 201
 ·exact cG hi hw hf hn x (by omega) g199 (by unfold cX;simp;omega) pitem_199
 by_cases g202:x.toNat <= 202
 ·exact cG hi hw hf hn x (by omega) g202 (by unfold cX;simp;omega) pitem_202
 by_cases g203:x.toNat <= 203
 ·exact cG hi hw hf hn x (by omega) g203 (by unfold cX;simp;omega) pitem_203
 by_cases g204:x.toNat <= 211
 ·exact cG hi hw hf hn x (by omega) g204 (by unfold cX;simp;omega) pitem_204
 by_cases g212:x.toNat <= 216
 ·exact cG hi hw hf hn x (by omega) g212 (by unfold cX;simp;omega) pitem_212
 by_cases g217:x.toNat <= 219
 ·exact cG hi hw hf hn x (by omega) g217 (by unfold cX;simp;omega) pitem_217
 by_cases g220:x.toNat <= 223
 ·exact cG hi hw hf hn x (by omega) g220 (by unfold cX;simp;omega) pitem_220
 exact cG hi hw hf hn x (by omega) (by omega) (by unfold cX;simp;omega) pitem_224
end
end Pip
end
end Go.Proofs.YtcjflgmcjfcodaaGreat
