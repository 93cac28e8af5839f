/- Texts of the walk, joined. -/
import Derived.Test.YtcjflgmcjfcodaaGreatM02
import Derived.Test.YtcjflgmcjfcodaaGreatM05
import Derived.Test.YtcjflgmcjfcodaaGreatM15
import Derived.Test.YtcjflgmcjfcodaaGreatM17
import Derived.Test.YtcjflgmcjfcodaaGreatM18
import Derived.Test.YtcjflgmcjfcodaaGreatM20
import Derived.Deep.OwnRows
import Derived.Deep.RegionLaw
import Derived.StillTailTactics
set_option maxRecDepth 100000
set_option maxHeartbeats 8000000
namespace Go.Proofs.Tryz end Go.Proofs.Tryz
namespace Go.Proofs.YtcjflgmcjfcodaaGreat
open Go.Proofs.Tryz
section
open Go.RowKit
namespace Pip
def cR (l:List Tok):List Value:=l.flatMap fun t=>[.int .u8 (t.kind.toNat:Int),.string ⟨t.text.toArray⟩,.bool t.neg,.int .u64 (t.mag:Int)]
def Lex.cells (l:Lex) (p sv:Value):List Value:=[.int .i64 (l.state:Int)] ++ (l.r.enc ++ ([p,sv] ++ (l.n.enc ++ [.string ⟨l.rest.toArray⟩,.int .u8 (l.kind.toNat:Int),.int .i64 (l.e:Int)])))
def Lex.Is (l:Lex) (b:Nat) (post:List Value) (h:Own.Heap):Prop :=
 post.length=4 /\ ∃ p sv hb,(p = .pointer none \/ p = .pointer (some ⟨b,10,none⟩)) /\ Own.Buf 5 l.s sv hb /\ h=Own.row b 178 (l.cells p sv ++ post) :: hb
def bR (o:Lex × List Tok) (b:Nat) (post:List Value) (h:Own.Heap) (w:World) (e:Ending) (w':World):Prop :=
 ∃ v hv h',e = .returned v /\ Own.Slk 4 210 o.2.length (cR o.2) v hv /\ o.1.Is b post h' /\ Own.aA h (hv ++ h') w w'
theorem bR.bJ {o:Lex × List Tok} {b:Nat} {post:List Value} {h h':Own.Heap} {w w':World} (h2:o.2=[]) (hI:o.1.Is b post h') (t:Own.aA h h' w w'):bR o b post h w (.returned (.slice none 0 0)) w':=by
 refine ⟨_,[],h',rfl,?_,hI,t⟩;rw [h2];exact .bare _ rfl rfl
theorem bR.one {o : Lex × List Tok} {b : Nat} {post : List Value} {h h' : Own.Heap} {w w' : World} (t : Tok) (h2 : o.2 = [t]) (hI : o.1.Is b post h') (tu : Own.aA h h' w w') :
  bR o b post h w (.returned (.slice (some ⟨w'.heap.size,0,none⟩) 1 1)) (w'.alloc (.cells #[.int .u8 (t.kind.toNat:Int),.string ⟨t.text.toArray⟩,.bool t.neg,.int .u64 (t.mag:Int)] 210)):=by
 refine ⟨_,[_],h',rfl,?_,hI,tu.alloc _⟩;rw [h2];exact Own.Slk.row (k:=4) (n:=1) (xs:=cR [t]) w'.heap.size 0 [] rfl rfl (by decide)
theorem blank_idx:∀ n:Fin 256,(decide (0 <= Lib.indexByte [32,9,10,13] (UInt8.ofNat n.val)) == iJ (UInt8.ofNat n.val))=true:=by decide +kernel
theorem mark_idx:∀ n:Fin 256,(decide (0 <= Lib.indexByte [123,125,91,93,58,44] (UInt8.ofNat n.val)) == lC (UInt8.ofNat n.val))=true:=by decide +kernel
theorem gB (x : UInt8) (c : Bool) (h : iJ x = c) (w : World) :
  Calls prog 159 #[.string ⟨#[32,9,10,13]⟩,.int .u8 (x.toNat:Int)] w fun e w'=>(∃ n:Int,e = .returned (.int .i64 n) /\ decide (0 <= n)=c) /\ w=w':=by
 refine (Tryz.strings_IndexByte ⟨#[32,9,10,13]⟩ (x.toNat:Int) w).mono ?_;rintro e w' ⟨rfl,rfl⟩;refine ⟨⟨_,rfl,?_⟩,rfl⟩;have h1:=blank_idx ⟨x.toNat,x.toNat_lt⟩;have e:UInt8.ofNat x.toNat=x:=by simp
 simp only [e,beq_iff_eq] at h1;rw [h] at h1;rw [Int.toNat_natCast,show x.toNat.toUInt8=x by simp];exact h1
theorem jE (x : UInt8) (c : Bool) (h : lC x = c) (w : World) :
  Calls prog 159 #[.string ⟨#[123,125,91,93,58,44]⟩,.int .u8 (x.toNat:Int)] w fun e w'=>(∃ n:Int,e = .returned (.int .i64 n) /\ decide (0 <= n)=c) /\ w=w':=by
 refine (Tryz.strings_IndexByte ⟨#[123,125,91,93,58,44]⟩ (x.toNat:Int) w).mono ?_;rintro e w' ⟨rfl,rfl⟩;refine ⟨⟨_,rfl,?_⟩,rfl⟩;have h1:=mark_idx ⟨x.toNat,x.toNat_lt⟩;have e:UInt8.ofNat x.toNat=x:=by simp
 simp only [e,beq_iff_eq] at h1;rw [h] at h1;rw [Int.toNat_natCast,show x.toNat.toUInt8=x by simp];exact h1
theorem _root_.Go.Proofs.YtcjflgmcjfcodaaGreat.Own.aA.put {a r : Own.Heap} {b : Nat} {T : TypeId} {l : List Value} {u v : World} (h : Own.aA a (Own.row b T l :: r) u v) (j : Nat) (x y : Value) (hj : l[j]? = some y) :
  Own.aA a (Own.row b T (l.set j x) :: r) u (v.setCell ⟨b,j,none⟩ x):=h.set j x (List.getElem?_eq_some_iff.1 hj).1
theorem aD2 (b o : Nat) (w : World) (x y : Value) (h0 : w.cell? ⟨b, o, none⟩ = some x) (h1 : w.cell? ⟨b, o + 1, none⟩ = some y) (f0 : w.frozen? ⟨b, o, none⟩ = false) (f1 : w.frozen? ⟨b, o + 1, none⟩ = false) :
  Calls prog 145 #[.pointer (some ⟨b,o,none⟩)] w fun e w'=>e = .returned (.tuple #[]) /\ w'=(w.setCell ⟨b,o,none⟩ (.pointer none)).setCell ⟨b,o + 1,none⟩ (.slice none 0 0):=by
 go_enter func145,ntmps145;go_wp2;go_end0;exact ⟨rfl,rfl⟩
section
variable {l:Lex} {b:Nat} {post:List Value} {h:Own.Heap} {w:World}
theorem sD (hi : l.Is b post h) (hw : Own.Has w h) (x : UInt8) (hx : iJ x = true) :
  Calls prog 155 #[.pointer (some ⟨b,0,none⟩),.int .u8 (x.toNat:Int)] w (bR (l.aK x) b post h w):=by
 have HP:=hhh (show l.aK x=(l,[]) by unfold Lex.aK;rw [ifp hx]);have HX:=hhh (gB x true hx);have HI:=hhh hi;have HW:=hhh hw;clear hi hw hx;go_enter func155,ntmps155;go_wp2_with (fail);refine (HX.o _).mono ?_;rintro e w' ⟨⟨n,rfl,hn⟩,rfl⟩;go_wp2;go_ret;rw [HP.o];exact .bJ rfl HI.o (Own.aA.refl HW.o)
theorem vW (hi : l.Is b post h) (hw : Own.Has w h) (x : UInt8) (hb : iJ x = false) (hx : lC x = true) :
  Calls prog 155 #[.pointer (some ⟨b,0,none⟩),.int .u8 (x.toNat:Int)] w (bR (l.aK x) b post h w):=by
 have HP:=hhh (show l.aK x=(l,[⟨x,[],false,0⟩]) by unfold Lex.aK;rw [ifn (by simp [hb]),ifp hx]);have HX:=hhh (gB x false hb);have HY:=hhh (jE x true hx);have HI:=hhh hi;have HW:=hhh hw;clear hi hw hx hb;go_enter func155,ntmps155;go_wp2_with (fail);refine (HX.o _).mono ?_;rintro e w' ⟨⟨n,rfl,hn⟩,rfl⟩;go_wp2_with (fail);refine (HY.o _).mono ?_;rintro e w' ⟨⟨m,rfl,hm⟩,rfl⟩;go_wp2;go_ret;rw [HP.o];exact .one ⟨x,[],false,0⟩ rfl HI.o (Own.aA.refl HW.o)
theorem sN (hi : l.Is b post h) (hw : Own.Has w h) :
  Calls prog 155 #[.pointer (some ⟨b,0,none⟩),.int .u8 34] w (bR (l.aK 34) b post h w):=by
 have HP:=hhh (show l.aK 34=(⟨1,Esc.Rdr.zero,[],l.n,l.rest,l.kind,l.e⟩,[]) by unfold Lex.aK;rw [ifn (by decide),ifn (by decide),ifp rfl]);have HX:=hhh (gB 34 false (by decide));have HY:=hhh (jE 34 false (by decide));obtain ⟨hpo,p,sv,hb,hp,hB,rfl⟩:=hi;have HI:=hhh (show (Lex.mk 1 Esc.Rdr.zero [] l.n l.rest l.kind l.e).Is b post _ from ⟨hpo,.pointer none,.slice none 0 0,[],.inl rfl,.none rfl,rfl⟩);have HT:=hhh (((((((((((Own.aA.refl hw).put 0 (.int .i64 1) _ rfl).put 1 (.int .i64 0) _ rfl).put 2 (.int .u8 0) _ rfl).put 3 (.int .u8 0) _ rfl).put 4 (.bool false) _ rfl).put 5 (.int .i64 0) _ rfl).put 6 (.int .i64 0) _ rfl).put 7 (.int .i64 0) _ rfl).put 8 (.int .i64 0) _ rfl).put 9 (.int .i64 0) _ rfl);have c0:=hw.cell b _ _ mcs 0 _ rfl;have c1:=hw.cell b _ _ mcs 1 _ rfl;have c2:=hw.cell b _ _ mcs 2 _ rfl;have c3:=hw.cell b _ _ mcs 3 _ rfl;have c4:=hw.cell b _ _ mcs 4 _ rfl;have c5:=hw.cell b _ _ mcs 5 _ rfl;have c6:=hw.cell b _ _ mcs 6 _ rfl;have c7:=hw.cell b _ _ mcs 7 _ rfl;have c8:=hw.cell b _ _ mcs 8 _ rfl;have c9:=hw.cell b _ _ mcs 9 _ rfl;have f0:=hw.free b _ _ mcs 0;have f1:=hw.free b _ _ mcs 1;have f2:=hw.free b _ _ mcs 2;have f3:=hw.free b _ _ mcs 3;have f4:=hw.free b _ _ mcs 4;have f5:=hw.free b _ _ mcs 5;have f6:=hw.free b _ _ mcs 6;have f7:=hw.free b _ _ mcs 7;have f8:=hw.free b _ _ mcs 8;have f9:=hw.free b _ _ mcs 9;clear hw hB hp hpo;go_enter func155,ntmps155;go_wp2_with (fail);refine (HX.o _).mono ?_;rintro e w' ⟨⟨n,rfl,hn⟩,rfl⟩;go_wp2_with (fail);refine (HY.o _).mono ?_;rintro e w' ⟨⟨m,rfl,hm⟩,rfl⟩;go_wp2_with (fail);have t1:=HT.o;refine (aD2 b 10 _ p sv (t1.has.cell b _ _ mcs 10 _ rfl) (t1.has.cell b _ _ mcs 11 _ rfl) (t1.has.free b _ _ mcs 10) (t1.has.free b _ _ mcs 11)).mono ?_;rintro e w' ⟨rfl,rfl⟩;have HT2:=hhh ((t1.put 10 (.pointer none) _ rfl).put 11 (.slice none 0 0) _ rfl);clear t1 HT c0 c1 c2 c3 c4 c5 c6 c7 c8 c9 f0 f1 f2 f3 f4 f5 f6 f7 f8 f9
 go_wp2;go_ret;rw [HP.o];exact .bJ rfl HI.o HT2.o.drop
theorem aDl (hi : l.Is b post h) (hw : Own.Has w h) :
  Calls prog 155 #[.pointer (some ⟨b,0,none⟩),.int .u8 116] w (bR (l.aK 116) b post h w):=by
 have HP:=hhh (show l.aK 116=(⟨3,l.r,l.s,l.n,[114,117,101],116,l.e⟩,[]) by unfold Lex.aK;rw [ifn (by decide),ifn (by decide),ifn (by decide),ifn (by decide),ifp rfl]);have HX:=hhh (gB 116 false (by decide));have HY:=hhh (jE 116 false (by decide));obtain ⟨hpo,p,sv,hb,hp,hB,rfl⟩:=hi;have HI:=hhh (show (Lex.mk 3 l.r l.s l.n [114,117,101] 116 l.e).Is b post _ from ⟨hpo,p,sv,hb,hp,hB,rfl⟩);have HT:=hhh ((((Own.aA.refl hw).put 0 (.int .i64 3) _ rfl).put 20 (.string ⟨#[114,117,101]⟩) _ rfl).put 21 (.int .u8 116) _ rfl);have c0:=hw.cell b _ _ mcs 0 _ rfl;have c20:=hw.cell b _ _ mcs 20 _ rfl;have c21:=hw.cell b _ _ mcs 21 _ rfl;have f0:=hw.free b _ _ mcs 0;have f20:=hw.free b _ _ mcs 20;have f21:=hw.free b _ _ mcs 21;clear hw hB hp hpo;go_enter func155,ntmps155;go_wp2_with (fail);refine (HX.o _).mono ?_;rintro e w' ⟨⟨n,rfl,hn⟩,rfl⟩;go_wp2_with (fail);refine (HY.o _).mono ?_;rintro e w' ⟨⟨m,rfl,hm⟩,rfl⟩;go_wp2;go_ret;rw [HP.o];exact .bJ rfl HI.o HT.o
theorem aDp (hi : l.Is b post h) (hw : Own.Has w h) :
  Calls prog 155 #[.pointer (some ⟨b,0,none⟩),.int .u8 102] w (bR (l.aK 102) b post h w):=by
 have HP:=hhh (show l.aK 102=(⟨3,l.r,l.s,l.n,[97,108,115,101],102,l.e⟩,[]) by unfold Lex.aK;rw [ifn (by decide),ifn (by decide),ifn (by decide),ifn (by decide),ifn (by decide),ifp rfl]);have HX:=hhh (gB 102 false (by decide));have HY:=hhh (jE 102 false (by decide));obtain ⟨hpo,p,sv,hb,hp,hB,rfl⟩:=hi;have HI:=hhh (show (Lex.mk 3 l.r l.s l.n [97,108,115,101] 102 l.e).Is b post _ from ⟨hpo,p,sv,hb,hp,hB,rfl⟩);have HT:=hhh ((((Own.aA.refl hw).put 0 (.int .i64 3) _ rfl).put 20 (.string ⟨#[97,108,115,101]⟩) _ rfl).put 21 (.int .u8 102) _ rfl);have c0:=hw.cell b _ _ mcs 0 _ rfl;have c20:=hw.cell b _ _ mcs 20 _ rfl;have c21:=hw.cell b _ _ mcs 21 _ rfl;have f0:=hw.free b _ _ mcs 0;have f20:=hw.free b _ _ mcs 20;have f21:=hw.free b _ _ mcs 21;clear hw hB hp hpo;go_enter func155,ntmps155;go_wp2_with (fail);refine (HX.o _).mono ?_;rintro e w' ⟨⟨n,rfl,hn⟩,rfl⟩;go_wp2_with (fail);refine (HY.o _).mono ?_;rintro e w' ⟨⟨m,rfl,hm⟩,rfl⟩;go_wp2;go_ret;rw [HP.o];exact .bJ rfl HI.o HT.o
theorem aDh (hi : l.Is b post h) (hw : Own.Has w h) :
  Calls prog 155 #[.pointer (some ⟨b,0,none⟩),.int .u8 110] w (bR (l.aK 110) b post h w):=by
 have HP:=hhh (show l.aK 110=(⟨3,l.r,l.s,l.n,[117,108,108],48,l.e⟩,[]) by unfold Lex.aK;rw [ifn (by decide),ifn (by decide),ifn (by decide),ifn (by decide),ifn (by decide),ifn (by decide),ifp rfl]);have HX:=hhh (gB 110 false (by decide));have HY:=hhh (jE 110 false (by decide));obtain ⟨hpo,p,sv,hb,hp,hB,rfl⟩:=hi;have HI:=hhh (show (Lex.mk 3 l.r l.s l.n [117,108,108] 48 l.e).Is b post _ from ⟨hpo,p,sv,hb,hp,hB,rfl⟩);have HT:=hhh ((((Own.aA.refl hw).put 0 (.int .i64 3) _ rfl).put 20 (.string ⟨#[117,108,108]⟩) _ rfl).put 21 (.int .u8 48) _ rfl);have c0:=hw.cell b _ _ mcs 0 _ rfl;have c20:=hw.cell b _ _ mcs 20 _ rfl;have c21:=hw.cell b _ _ mcs 21 _ rfl;have f0:=hw.free b _ _ mcs 0;have f20:=hw.free b _ _ mcs 20;have f21:=hw.free b _ _ mcs 21;clear hw hB hp hpo;go_enter func155,ntmps155;go_wp2_with (fail);refine (HX.o _).mono ?_;rintro e w' ⟨⟨n,rfl,hn⟩,rfl⟩;go_wp2_with (fail);refine (HY.o _).mono ?_;rintro e w' ⟨⟨m,rfl,hm⟩,rfl⟩;go_wp2;go_ret;rw [HP.o];exact .bJ rfl HI.o HT.o
theorem sF (hi : l.Is b post h) (hw : Own.Has w h) (x : UInt8) (hx : iJ x = false) (hy : lC x = false) (h34 : x.toNat ≠ 34) (h45 : x.toNat ≠ 45) (hd : x.toNat < 48 ∨ 57 < x.toNat) (h116 : x.toNat ≠ 116) (h102 : x.toNat ≠ 102) (h110 : x.toNat ≠ 110) :
  Calls prog 155 #[.pointer (some ⟨b,0,none⟩),.int .u8 (x.toNat:Int)] w (bR (l.aK x) b post h w):=by
 have hdg:isDigit x=false:=by unfold isDigit;simp;omega
 have HP:=hhh (show l.aK x=(⟨l.state,l.r,l.s,l.n,l.rest,l.kind,2⟩,[]) by
  unfold Lex.aK
  rw [ifn (by simp [hx]),ifn (by simp [hy]),ifn (neb x 34 h34),ifn (by simp only [hdg,Bool.false_eq_true,or_false];exact neb x 45 h45),ifn (neb x 116 h116),ifn (neb x 102 h102),ifn (neb x 110 h110)])
 have HX:=hhh (gB x false hx);have HY:=hhh (jE x false hy);have t34:=nb x 34 (by omega);have t45:=nb x 45 (by omega);have t116:=nb x 116 (by omega);have t102:=nb x 102 (by omega);have t110:=nb x 110 (by omega);obtain ⟨hpo,p,sv,hb,hp,hB,rfl⟩:=hi;have HI:=hhh (show (Lex.mk l.state l.r l.s l.n l.rest l.kind 2).Is b post _ from ⟨hpo,p,sv,hb,hp,hB,rfl⟩);have HT:=hhh ((Own.aA.refl hw).put 22 (.int .i64 2) _ rfl);have c22:=hw.cell b _ _ mcs 22 _ rfl;have f22:=hw.free b _ _ mcs 22;clear hw hB hp hpo hdg hx hy h34 h45 h116 h102 h110;rcases hd with hd | hd
 ·have h1:(x.toNat:Int) < 48:=by omega
  clear hd;go_enter func155,ntmps155;go_wp2_with (fail);refine (HX.o _).mono ?_;rintro e w' ⟨⟨n,rfl,hn⟩,rfl⟩;go_wp2_with (fail);refine (HY.o _).mono ?_;rintro e w' ⟨⟨m,rfl,hm⟩,rfl⟩;go_wp2;go_ret;rw [HP.o];exact .bJ rfl HI.o HT.o
 ·have h1:(48:Int) <= (x.toNat:Int):=by omega
  have h2:(57:Int) < (x.toNat:Int):=by omega
  clear hd;go_enter func155,ntmps155;go_wp2_with (fail);refine (HX.o _).mono ?_;rintro e w' ⟨⟨n,rfl,hn⟩,rfl⟩;go_wp2_with (fail);refine (HY.o _).mono ?_;rintro e w' ⟨⟨m,rfl,hm⟩,rfl⟩;go_wp2;go_ret;rw [HP.o];exact .bJ rfl HI.o HT.o
end
end Pip
end
section
open Go.RowKit
namespace Pip
section
variable {l:Lex} {b:Nat} {post:List Value} {h:Own.Heap} {w:World}
theorem pH (hi : l.Is b post h) (hw : Own.Has w h) (x : UInt8) (hx : iJ x = false) (hy : lC x = false) (h34 : x.toNat ≠ 34) (hd : x.toNat = 45 ∨ (48 ≤ x.toNat ∧ x.toNat ≤ 57)) :
  Calls prog 155 #[.pointer (some ⟨b,0,none⟩),.int .u8 (x.toNat:Int)] w (bR (l.aK x) b post h w):=by
 have hdg:x=45 \/ isDigit x=true:=by
  rcases hd with h | h
  ·exact .inl (eqb x 45 h)
  ·exact .inr (by unfold isDigit;simp [h.1,h.2])
 have HP:=hhh (show l.aK x=(⟨2,l.r,l.s,(Num.new.step x).1,l.rest,l.kind,(Num.new.step x).2.2⟩,[]) by
  unfold Lex.aK
  rw [ifn (by simp [hx]),ifn (by simp [hy]),ifn (neb x 34 h34),ifp hdg])
 have HX:=hhh (gB x false hx);have HY:=hhh (jE x false hy);have t34:=nb x 34 (by omega);obtain ⟨hpo,p,sv,hb,hp,hB,rfl⟩:=hi;have HI:=hhh (fun (n:Num) (e:Nat)=>show (Lex.mk 2 l.r l.s n l.rest l.kind e).Is b post _ from ⟨hpo,p,sv,hb,hp,hB,rfl⟩)
 have HN:=hhh (fun w (pre post:List Value) (o:Nat) (ho:pre.length=o) h=>(by
  have:=uV w b 178 pre post Num.new Num.Fits.new x h;rw [ho] at this;exact this:Calls prog 158 #[.pointer (some ⟨b,o,none⟩),.int .u8 (x.toNat:Int)] w fun e w'=>e = .returned (.tuple #[.bool (Num.new.step x).2.1,.int .i64 ((Num.new.step x).2.2:Int)]) /\
   At.Is w' b 178 pre (Num.new.step x).1.enc post /\ At.aV b w w'))
 generalize Num.new.step x=O at HN HP;generalize l.aK x=LB at HP |-;have HT:=hhh (show Own.aA (Own.row b 178 (l.cells p sv ++ post) :: hb) (Own.row b 178 (([.int .i64 2] ++ (l.r.enc ++ [p,sv])) ++ Num.new.enc ++ ([.string ⟨l.rest.toArray⟩,.int .u8 (l.kind.toNat:Int),.int .i64 (l.e:Int)] ++ post)) :: hb) w _ from ((((((((((Own.aA.refl hw).put 0 (.int .i64 2) _ rfl).put 12 (.bool false) _ rfl).put 13 (.bool false) _ rfl).put 14 (.bool false) _ rfl).put 15 (.bool false) _ rfl).put 16 (.int .u64 0) _ rfl).put 17 (.bool false) _ rfl).put 18 (.bool false) _ rfl).put 19 (.int .i64 0) _ rfl));have c0:=hw.cell b _ _ mcs 0 _ rfl;have c12:=hw.cell b _ _ mcs 12 _ rfl;have c13:=hw.cell b _ _ mcs 13 _ rfl;have c14:=hw.cell b _ _ mcs 14 _ rfl;have c15:=hw.cell b _ _ mcs 15 _ rfl;have c16:=hw.cell b _ _ mcs 16 _ rfl;have c17:=hw.cell b _ _ mcs 17 _ rfl;have c18:=hw.cell b _ _ mcs 18 _ rfl;have c19:=hw.cell b _ _ mcs 19 _ rfl;have f0:=hw.free b _ _ mcs 0;have f12:=hw.free b _ _ mcs 12;have f13:=hw.free b _ _ mcs 13;have f14:=hw.free b _ _ mcs 14;have f15:=hw.free b _ _ mcs 15;have f16:=hw.free b _ _ mcs 16;have f17:=hw.free b _ _ mcs 17;have f18:=hw.free b _ _ mcs 18;have f19:=hw.free b _ _ mcs 19;clear hw hB hp hpo hdg hx hy h34;have hsplit:((x.toNat:Int) == 45)=true \/ (((x.toNat:Int) == 45)=false /\ (48:Int) <= (x.toNat:Int) /\ (x.toNat:Int) <= 57):=by
  rcases hd with h | h
  ·exact .inl (yb x 45 (by omega))
  ·exact .inr ⟨nb x 45 (by omega),by omega,by omega⟩
 clear hd;rcases hsplit with t45 | ⟨t45,h1,h2⟩
 all_goals
  go_enter func155,ntmps155;go_wp2_with (fail);refine (HX.o _).mono ?_;rintro e w' ⟨⟨n,rfl,hn⟩,rfl⟩;go_wp2_with (fail);refine (HY.o _).mono ?_;rintro e w' ⟨⟨m,rfl,hm⟩,rfl⟩;go_wp2_with (fail);have t1:=HT.o;refine (HN.o _ ([.int .i64 2] ++ (l.r.enc ++ [p,sv])) ([.string ⟨l.rest.toArray⟩,.int .u8 (l.kind.toNat:Int),.int .i64 (l.e:Int)] ++ post) 12 rfl (t1.has.is3 mcs)).mono ?_;rintro e w1 ⟨rfl,i1,o1⟩;have t2:=t1.trans (Own.aA.only t1.has i1 o1);have c22:=t2.has.cell b _ _ mcs 22 _ rfl;have f22:=t2.has.free b _ _ mcs 22;have HT2:=hhh (t2.put 22 (.int .i64 (O.2.2:Int)) _ rfl);clear t1 t2 i1 o1 HT;clear c0 c12 c13 c14 c15 c16 c17 c18 c19 f0 f12 f13 f14 f15 f16 f17 f18 f19;go_wp2;go_ret;rw [HP.o];exact .bJ rfl (HI.o _ _) HT2.o
theorem bY (hi : l.Is b post h) (hw : Own.Has w h) (x : UInt8) :
  Calls prog 155 #[.pointer (some ⟨b,0,none⟩),.int .u8 (x.toNat:Int)] w (bR (l.aK x) b post h w):=by
 cases hx:iJ x with
 | true=>exact sD hi hw x hx
 | false =>
  cases hy:lC x with
  | true=>exact vW hi hw x hx hy
  | false =>
   by_cases h34:x.toNat=34
   ·obtain rfl:=eqb x 34 h34;exact sN hi hw
   by_cases hd:x.toNat=45 \/ (48 <= x.toNat /\ x.toNat <= 57)
   ·exact pH hi hw x hx hy h34 hd
   by_cases h116:x.toNat=116
   ·obtain rfl:=eqb x 116 h116;exact aDl hi hw
   by_cases h102:x.toNat=102
   ·obtain rfl:=eqb x 102 h102;exact aDp hi hw
   by_cases h110:x.toNat=110
   ·obtain rfl:=eqb x 110 h110;exact aDh hi hw
   exact sF hi hw x hx hy h34 (by omega) (by omega) h116 h102 h110
end
end Pip
end
section
open Go.RowKit
namespace Pip
section
variable {l:Lex} {b:Nat} {post:List Value} {h:Own.Heap} {w:World}
theorem _root_.Go.Proofs.YtcjflgmcjfcodaaGreat.Own.aA.iterAt {a r:Own.Heap} {u v:World} (h:Own.aA a r u v) (s:ByteArray) (k m:Nat):Own.aA a r u ((v.iter s k).iterAt v.heap.size s m):=by
 have e:(v.iter s k).iterAt v.heap.size s m=v.alloc (.stringIter s m):=by
  show ({ v with heap:=(v.heap.push _).setIfInBounds v.heap.size _ }:World) = { v with heap:=v.heap.push _ };congr 1;apply Array.ext_getElem?;intro i;by_cases hi:i=v.heap.size
  ·subst hi;simp
  ·simp only [Array.getElem?_setIfInBounds,Array.getElem?_push,ifn hi,ifn (Ne.symm hi)]
 rw [e];exact h.aD _
theorem _root_.Go.Proofs.YtcjflgmcjfcodaaGreat.Own.aA.iter {a r:Own.Heap} {u v:World} (h:Own.aA a r u v) (s:ByteArray) (k:Nat):Own.aA a r u (v.iter s k):=h.aD _
theorem bR.aLa {o : Lex × List Tok} {b : Nat} {post : List Value} {h h' : Own.Heap} {w w' : World} (t : Tok) (h2 : o.2 = [t]) (hI : o.1.Is b post h') (tu : Own.aA h h' w w') (k : Nat) (hk : w'.heap.size = k) :
  bR o b post h w (.returned (.slice (some ⟨k,0,none⟩) 1 1)) (w'.alloc (.cells #[.int .u8 (t.kind.toNat:Int),.string ⟨t.text.toArray⟩,.bool t.neg,.int .u64 (t.mag:Int)] 210)):=by
 subst hk;exact .one t h2 hI tu
theorem kO (hi : l.Is b post h) (hw : Own.Has w h) (hf : l.Fits) :
  Calls prog 119 #[.pointer (some ⟨b,0,none⟩)] w (bR l.ended b post h w):=by
 obtain ⟨hpo,p,sv,hb,hp,hB,rfl⟩:=hi;have he0:=aH2 w b 178 ([.int .i64 (l.state:Int)] ++ (l.r.enc ++ [p,sv])) ([.string ⟨l.rest.toArray⟩,.int .u8 (l.kind.toNat:Int),.int .i64 (l.e:Int)] ++ post) l.n hf.n (hw.is3 mcs);rw [show List.length ([.int .i64 (l.state:Int)] ++ (l.r.enc ++ [p,sv]):List Value)=12 from rfl] at he0;have HE:=hhh he0;clear he0;have HI:=hhh (fun st e=>show (Lex.mk st l.r l.s l.n l.rest l.kind e).Is b post _ from ⟨hpo,p,sv,hb,hp,hB,rfl⟩);have HD0:l.ended=if l.n.fin.2.2 ≠ 0 then (⟨l.state,l.r,l.s,l.n,l.rest,l.kind,l.n.fin.2.2⟩,[]) else (⟨0,l.r,l.s,l.n,l.rest,l.kind,0⟩,[⟨110,[],l.n.fin.1,l.n.fin.2.1⟩]):=rfl
 have hb8:=hf.n.fin;generalize l.ended=LE at HD0 |-;generalize l.n.fin=O at HE HD0 hb8;obtain ⟨O1,O2,O3⟩:=O;simp only at HE HD0 hb8;have HV:=hhh hw;have HD:=hhh HD0;clear hw hB hp hpo hf HD0;go_enter func119,ntmps119;go_wp2_with (fail);refine HE.o.mono ?_;rintro e w1 ⟨rfl,b1⟩
 dsimp only [jV]
 have t1:=Own.aA.aJ HV.o b1;have HT1:=hhh (fun o=>t1.aD o);have c22:=fun o=>(t1.aD o).has.cell b _ _ mcs 22 _ rfl
 have f22:=fun o=>(t1.aD o).has.free b _ _ mcs 22
 have hlt:=t1.has.cL;have hne:¬ b=w1.heap.size:=by omega
 have hne':¬ w1.heap.size=b:=by omega
 clear t1 b1 hlt;rcases Nat.eq_zero_or_pos O3 with h0 | h0
 ·have HP:=hhh (show LE=_ by rw [HD.o,h0,ifn (by simp)])
  subst h0;have c0:=fun o=>((HT1.o o).put 22 (.int .i64 0) _ rfl).has.cell b _ _ mcs 0 _ rfl
  have f0:=fun o=>((HT1.o o).put 22 (.int .i64 0) _ rfl).has.free b _ _ mcs 0
  have HT2:=hhh (fun o=>((HT1.o o).put 22 (.int .i64 0) _ rfl).put 0 (.int .i64 0) _ rfl);clear HD;go_wp2;go_ret;rw [HP.o];exact bR.aLa (o:=(Lex.mk 0 l.r l.s l.n l.rest l.kind 0,[⟨110,[],O1,O2⟩])) (post:=post) (h:=Own.row b 178 (l.cells p sv ++ post) :: hb) ⟨110,[],O1,O2⟩ rfl (HI.o 0 0) (HT2.o _) (w1.heap.size + 1) (by simp [World.setCell])
 ·have HP:=hhh (show LE=_ by rw [HD.o,ifp (show O3 ≠ 0 by omega)])
  have hneb:((O3:Int) != 0)=true:=by simp;omega
  have HT2:=hhh (fun o=>(HT1.o o).put 22 (.int .i64 (O3:Int)) _ rfl);clear HD;go_wp2;go_ret;rw [HP.o];exact .bJ rfl (HI.o l.state O3) (HT2.o _)
theorem aDx (hi : l.Is b post h) (hw : Own.Has w h) (x : UInt8) (hr : l.rest = []) :
  Calls prog 153 #[.pointer (some ⟨b,0,none⟩),.int .u8 (x.toNat:Int)] w (bR (l.word x) b post h w):=by
 have HP:=hhh (show l.word x=(⟨l.state,l.r,l.s,l.n,l.rest,l.kind,2⟩,[]) by unfold Lex.word;rw [hr]);obtain ⟨st,r,s,n,rest,kind,e⟩:=l;simp only at hr;subst hr;obtain ⟨hpo,p,sv,hb,hp,hB,rfl⟩:=hi;have HI:=hhh (fun e=>show (Lex.mk st r s n [] kind e).Is b post _ from ⟨hpo,p,sv,hb,hp,hB,rfl⟩);have c20:=hw.cell b _ _ mcs 20 _ rfl;have HT:=hhh (((Own.aA.refl hw).iter ⟨#[]⟩ 0).put 22 (.int .i64 2) _ rfl);have c22:=((Own.aA.refl hw).iter ⟨#[]⟩ 0).has.cell b _ _ mcs 22 _ rfl;have f22:=((Own.aA.refl hw).iter ⟨#[]⟩ 0).has.free b _ _ mcs 22;generalize Lex.word _ x=LE at HP |-;have hnx:∀ ty,(Instr.next (.pointer (some ⟨w.heap.size,0,none⟩)) true ty).run prog (w.iter ⟨#[]⟩ 0) = .ok (.tuple #[.bool false]) (w.iter ⟨#[]⟩ 0):=fun ty=>Lib.run_next_end_at (w.iter ⟨#[]⟩ 0) w.heap.size ⟨#[]⟩ 0 ty (heap_alloc_new w _) (by decide)
 clear hw hB hp hpo;go_enter func153,ntmps153;go_wp2;refine wp_loop_rounds 1 ?_;rw [rounds_succ];go_wp2;go_ret;rw [HP.o];exact .bJ rfl (HI.o 2) HT.o
theorem aFr (hi : l.Is b post h) (hw : Own.Has w h) (x c : UInt8) (rs : List UInt8) (hc : c.toNat < 128) (hr : l.rest = c :: rs) (hl : rs.length ≤ 3) :
  Calls prog 153 #[.pointer (some ⟨b,0,none⟩),.int .u8 (x.toNat:Int)] w (bR (l.word x) b post h w):=by
 have HP0:l.word x=if c ≠ x then (⟨l.state,l.r,l.s,l.n,l.rest,l.kind,2⟩,[]) else if rs=[] then (⟨0,l.r,l.s,l.n,rs,l.kind,l.e⟩,[⟨l.kind,[],false,0⟩]) else (⟨l.state,l.r,l.s,l.n,rs,l.kind,l.e⟩,[]):=by
  unfold Lex.word;rw [hr]
 have HP:=hhh HP0;obtain ⟨st,r,s,n,rest,kind,e⟩:=l;simp only at hr;subst hr;obtain ⟨hpo,p,sv,hb,hp,hB,rfl⟩:=hi;have HI:=hhh (fun st rs e=>show (Lex.mk st r s n rs kind e).Is b post _ from ⟨hpo,p,sv,hb,hp,hB,rfl⟩);have c20:=hw.cell b _ _ mcs 20 _ rfl;obtain ⟨S,hS⟩:∃ S:ByteArray,S=⟨(c :: rs).toArray⟩:=⟨_,rfl⟩;obtain ⟨R,hR⟩:∃ R:ByteArray,R=⟨rs.toArray⟩:=⟨_,rfl⟩;have hSz:S.size=rs.length + 1:=by rw [hS];exact List.size_toArray
 have h0:0 < S.size:=by omega
 have hS0:S[0]'h0=c:=by subst hS;rfl
 have hnx:∀ ty,(Instr.next (.pointer (some ⟨w.heap.size,0,none⟩)) true ty).run prog (w.iter S 0) = .ok (.tuple #[.bool true,.int .i64 ((0:Nat):Int),.int .i32 (c.toNat:Int)]) ((w.iter S 0).iterAt w.heap.size S 1):=fun ty=>by
  rw [Lib.run_next_ascii_at (w.iter S 0) w.heap.size S 0 ty (heap_alloc_new w _) h0 (by rw [hS0];exact hc),hS0]
 have hE:S.extract 1 S.size=R:=by
  rw [hS,hR];apply ByteArray.ext;apply Array.toList_inj.1;rw [ByteArray.data_extract,Array.toList_extract,List.extract_eq_take_drop];simp [ByteArray.size]
 have hsl:∀ wx,(Instr.slice 9 (.string S) (some (.int .i64 1)) none none).run prog wx = .ok (.string R) wx:=by
  intro wx;rw [run_slice_string_from_if wx _ _ _ _ underlying9,ifp ⟨by omega,by omega⟩,<- hE];rfl
 have t0:=(Own.aA.refl hw).iterAt S 0 1;have HT:=hhh (show Own.aA _ (Own.row b 178 ((Lex.mk st r s n (c :: rs) kind e).cells p sv ++ post) :: hb) w ((w.iter S 0).iterAt w.heap.size S 1) from t0);have c20':=t0.has.cell b _ _ mcs 20 _ rfl;have c21:=t0.has.cell b _ _ mcs 21 _ rfl;have c22:=t0.has.cell b _ _ mcs 22 _ rfl;have c0:=t0.has.cell b _ _ mcs 0 _ rfl;have f20:=t0.has.free b _ _ mcs 20;have f22:=t0.has.free b _ _ mcs 22;have f0:=t0.has.free b _ _ mcs 0;rw [show (Value.string ⟨(Lex.mk st r s n (c :: rs) kind e).rest.toArray⟩) = .string S by rw [hS]] at c20';have HR:=hhh (show Value.string ⟨rs.toArray⟩ = .string R by rw [hR]);have hRz:R.size <= 3:=by rw [hR];show rs.toArray.size <= 3;simpa using hl
 rw [<- hS] at c20;have hxl:=UInt8.toNat_lt x;have hx32:wrap32 (x.toNat:Int)=(x.toNat:Int):=by unfold wrap32;omega
 have hR0:rs=[] -> R.toList.isEmpty=true:=fun e=>by rw [hR,e,Mem.toList_eq];rfl
 have hR1:rs ≠ [] -> R.toList.isEmpty=false:=fun e=>by
  rw [hR,Mem.toList_eq]
  cases rs with
  | nil=>exact absurd rfl e
  | cons y ys=>rfl
 have HS:=hhh hS;have HRe:=hhh hR;have HRs:=hhh (fun st'=>show Own.row b 178 ((Lex.mk st' r s n rs kind e).cells p sv ++ post)=Own.row b 178 (((Lex.mk st' r s n (c :: rs) kind e).cells p sv ++ post).set 20 (.string R)) by rw [hR];rfl);clear hw hB hp hpo t0 hS hR HP0 hSz h0 hS0;generalize Lex.word _ x=LE at HP |-;by_cases hx:c=x
 ·have tx:((c.toNat:Int) != (x.toNat:Int))=false:=by simp [hx]
  have HT2:=hhh (HT.o.put 20 (.string R) _ rfl);have d20:=HT2.o.has.cell b _ _ mcs 20 _ rfl;by_cases h0:rs=[]
  ·have HP2:=hhh (show LE=_ by rw [HP.o,ifn (by simp [hx]),ifp h0])
   have HT3:=hhh (HT2.o.put 0 (.int .i64 0) _ rfl);have hRe:=hR0 h0;have d0:=HT2.o.has.cell b _ _ mcs 0 _ rfl;have g0:=HT2.o.has.free b _ _ mcs 0;have d21:=HT3.o.has.cell b _ _ mcs 21 _ rfl;clear HP hR0 hR1 hx h0;go_enter func153,ntmps153;go_wp2;refine wp_loop_rounds 1 ?_;rw [rounds_succ];go_wp2;go_ret;rw [HP2.o];exact bR.aLa (o:=(Lex.mk 0 r s n rs kind e,[⟨kind,[],false,0⟩])) ⟨kind,[],false,0⟩ rfl (HI.o 0 rs e) (by rw [HRs.o];exact HT3.o) _ (by simp [World.setCell])
  ·have HP2:=hhh (show LE=_ by rw [HP.o,ifn (by simp [hx]),ifn h0])
   have hRe:=hR1 h0;clear HP hR0 hR1 hx h0;go_enter func153,ntmps153;go_wp2;refine wp_loop_rounds 1 ?_;rw [rounds_succ];go_wp2;go_ret;rw [HP2.o];exact bR.bJ (o:=(Lex.mk st r s n rs kind e,[])) rfl (HI.o st rs e) (by rw [HRs.o];exact HT2.o)
 ·have tx:((c.toNat:Int) != (x.toNat:Int))=true:=by
   simp only [bne_iff_ne,ne_eq];intro e;exact hx (UInt8.toNat_inj.1 (by omega))
  have HP2:=hhh (show LE=_ by rw [HP.o,ifp hx]);have HT2:=hhh (HT.o.put 22 (.int .i64 2) _ rfl);clear hx HP hR0 hR1;go_enter func153,ntmps153;go_wp2;refine wp_loop_rounds 1 ?_;rw [rounds_succ];go_wp2;go_ret;rw [HP2.o];exact .bJ rfl (HI.o st (c :: rs) 2) HT2.o
theorem rests_cons:∀ l ∈ rests,∀ c r,l=c :: r -> c.toNat < 128 /\ r.length <= 3:=by
 intro l hl c r e;simp only [rests,List.mem_cons,List.not_mem_nil,or_false] at hl;rcases hl with rfl | rfl | rfl | rfl | rfl | rfl | rfl | rfl | rfl | rfl
 all_goals (cases e;try decide)
theorem aIl (hi : l.Is b post h) (hw : Own.Has w h) (hf : l.Fits) (x : UInt8) :
  Calls prog 153 #[.pointer (some ⟨b,0,none⟩),.int .u8 (x.toNat:Int)] w (bR (l.word x) b post h w):=by
 cases hr:l.rest with
 | nil=>exact aDx hi hw x hr
 | cons c rs =>
  have:=rests_cons _ hf.rest c rs hr;exact aFr hi hw x c rs this.1 hr this.2
theorem oP {P : Program} {w : World} {e : TypeId} (t ty : TypeId) (i : TypeInfo) (ht : P.underlying t = some (.slice e)) (hi : P.info? e = some i) (a : Option Addr) (n c : Nat) (hnc : n ≤ c) (a' : Option Addr) (c' : Nat) :
  (Builtin.append_ #[t,t] ty #[.slice a n c,.slice a' 0 c']).run P w = .ok (.slice a n c) w:=by
 have hl:∀ (b:Option Addr) (m c:Nat) (u:World),(Builtin.lenOf (.slice b m c)).run P u = .ok m u:=fun _ _ _ _=>rfl
 have hs:∀ u,(Go.sizeOf e).run P u = .ok i.size u:=fun u=>by simp [Go.sizeOf,typeInfo,hi]
 have hf:∀ (b:Option Addr) (c:Nat) (u:World),(Builtin.firstCells i.size 0 (.slice b 0 c)).run P u = .ok #[] u:=by
  intro b c u
  cases b <;> simp [Builtin.firstCells,loadCells,loadCellsFrom]
 have hst:∀ (b:Addr) (u:World),(storeCells b []).run P u = .ok () u:=fun b u=>rfl
 cases a with
 | none=>cases a' <;> simp [Builtin.append_,run_underlying ht,hs,typeInfo,hi,hl,hf,hnc]
 | some a=>cases a' <;> simp [Builtin.append_,run_underlying ht,hs,typeInfo,hi,hl,hf,hnc,hst]
end
end Pip
end
section
open Go.RowKit
namespace Pip
theorem mP (l:Lex) (x:UInt8):(l.aK x).2=[] \/ ∃ t,(l.aK x).2=[t]:=by
 unfold Lex.aK
 repeat' split
 all_goals first | exact .inl rfl | exact .inr ⟨_,rfl⟩
theorem infoTok:(prog.info? 210).map (fun i=>(i.zero,i.size,i.bytes))=some (some (.agg #[.int .u8 0,.string ⟨#[]⟩,.bool false,.int .u64 0]),4,40):=by kernel_rfl
section
variable {l:Lex} {b:Nat} {post:List Value} {h:Own.Heap} {w:World}
theorem Lex.Is.eG {l:Lex} {b:Nat} {post:List Value} {h:Own.Heap} {w:World} (hi:l.Is b post h) (hw:Own.Has w h):w.cell? ⟨b,22,none⟩=some (.int .i64 (l.e:Int)):=by
 obtain ⟨hpo,p,sv,hb,hp,hB,rfl⟩:=hi;exact hw.cell b _ _ mcs 22 _ rfl
theorem Lex.Is.vF {l:Lex} {b:Nat} {post:List Value} {h:Own.Heap} {w:World} (hi:l.Is b post h) (hw:Own.Has w h):w.cell? ⟨b,0,none⟩=some (.int .i64 (l.state:Int)):=by
 obtain ⟨hpo,p,sv,hb,hp,hB,rfl⟩:=hi;exact hw.cell b _ _ mcs 0 _ rfl
theorem xN {ops : Array Oper} {rest : List Oper} {o : Oper} {a : Act} {Q : Exit → Act → World → Prop} (hgd : o.guard = none) (s x : Operand)
  (ho:o.op = .call { callee:=.builtin .append,args:=#[s,x],argTypes:=#[179,179] })
  (v v2:Value) (t1:Tok) (ts:List Tok) (hts:ts=[] \/ ∃ t,ts=[t]) (h1 h2 R:Own.Heap) (hs:a.eval s=v) (hx:a.eval x=v2)
  (s1:Own.Slk 4 210 1 (cR [t1]) v h1) (s2:Own.Slk 4 210 ts.length (cR ts) v2 h2) {w:World} (hw:Own.Has w (h1 ++ (h2 ++ R)))
  (hK:∀ v' h' w',Own.Slk 4 210 (t1 :: ts).length (cR (t1 :: ts)) v' h' -> Own.aA (h1 ++ (h2 ++ R)) (h' ++ (h2 ++ R)) w w' -> wpList prog ops Q rest (a.put o.dst v') w') :
  wpList prog ops Q (o :: rest) a w:=by
 obtain ⟨i0,hi0,e0⟩:=Option.map_eq_some_iff.1 infoTok;simp only [Prod.mk.injEq] at e0;obtain ⟨hz,hsz,hby⟩:=e0;rcases hts with rfl | ⟨t,rfl⟩
 ·obtain ⟨ad,c,rfl⟩:=s1.len
  obtain ⟨ad2,c2,rfl⟩:=s2.len;refine wpList_plain hgd fun K hK'=>?_
  have hr:=oP (P:=prog) (w:=w) 179 o.type i0 underlying179 hi0 ad 1 c (by cases s1 with | row b m spare _ _ hm=>omega) ad2 c2;unfold Oper.wp execOp;simp only [ho,resolve,invoke,builtin,Sem.run_bind,Sem.run_pure,Result.andThen_ok,List.map_toArray,List.map_cons,List.map_nil,hs,hx];rw [show ((([]:List Tok).length:Nat))=0 from rfl,hr];exact hK' _ _ (hK _ h1 w s1 (Own.aA.refl hw))
 ·obtain ⟨b2,m,spare,rfl,rfl,hsp,hm⟩:=s2.at_ (show 0 < 1 by decide)
  refine Own.iI hgd s x 179 ho 210 i0 _ 4 40 underlying179 hi0 hz hsz hby rfl v 1 (cR [t1]) h1 hs s1 hw.left ⟨b2,0,none⟩ _ 1 (cR [t]) hx rfl ?_ ?_ (by decide) (by decide) (by decide) ?_
  ·intro j u hj
   have:=hw.right.left.cell b2 _ _ msr j u (by rw [List.getElem?_append_left (List.getElem?_eq_some_iff.1 hj).1];exact hj);rw [Addr.add_lit,Nat.zero_add];exact this
  ·intro u hu
   simp only [cR,List.flatMap_cons,List.flatMap_nil,List.append_nil,List.mem_cons,List.not_mem_nil,or_false] at hu;rcases hu with rfl | rfl | rfl | rfl <;> rfl
  ·intro ad' c' h' w' s' t'
   exact hK _ h' w' s' (t'.frame hw)
theorem zO (hi : l.Is b post h) (hw : Own.Has w h) (hf : l.Fits) (he : l.e = 0) (x : UInt8) :
  Calls prog 154 #[.pointer (some ⟨b,0,none⟩),.int .u8 (x.toNat:Int)] w (bR (l.number x) b post h w):=by
 have HP0 : l.number x = if (l.n.step x).2.1 = true ∨ (l.n.step x).2.2 ≠ 0 then (⟨l.state, l.r, l.s, (l.n.step x).1, l.rest, l.kind, (l.n.step x).2.2⟩, [])
   else if (Lex.mk l.state l.r l.s (l.n.step x).1 l.rest l.kind 0).ended.1.e ≠ 0 then ((Lex.mk l.state l.r l.s (l.n.step x).1 l.rest l.kind 0).ended.1,[])
   else (((Lex.mk l.state l.r l.s (l.n.step x).1 l.rest l.kind 0).ended.1.aK x).1,(Lex.mk l.state l.r l.s (l.n.step x).1 l.rest l.kind 0).ended.2 ++ ((Lex.mk l.state l.r l.s (l.n.step x).1 l.rest l.kind 0).ended.1.aK x).2):=rfl
 have hns:=hf.n.step x;have hsl:=hf.small he;have HFt:=hhh (fun n (hn:Num.Fits n)=>(Lex.Fits.mk' hf.state hf.r hn hf.rest hf.s (fun _=>hsl) (nlb rfl):(Lex.mk l.state l.r l.s n l.rest l.kind 0).Fits));obtain ⟨hpo,p,sv,hb,hp,hB,rfl⟩:=hi;have hn0:=uV w b 178 ([.int .i64 (l.state:Int)] ++ (l.r.enc ++ [p,sv])) ([.string ⟨l.rest.toArray⟩,.int .u8 (l.kind.toNat:Int),.int .i64 (l.e:Int)] ++ post) l.n hf.n x (hw.is3 mcs);rw [show List.length ([.int .i64 (l.state:Int)] ++ (l.r.enc ++ [p,sv]):List Value)=12 from rfl] at hn0;have HI:=hhh (fun n e=>show (Lex.mk l.state l.r l.s n l.rest l.kind e).Is b post _ from ⟨hpo,p,sv,hb,hp,hB,rfl⟩);have HV:=hhh (show Own.Has w (Own.row b 178 (([.int .i64 (l.state:Int)] ++ (l.r.enc ++ [p,sv])) ++ l.n.enc ++ ([.string ⟨l.rest.toArray⟩,.int .u8 (l.kind.toNat:Int),.int .i64 (l.e:Int)] ++ post)) :: hb) from hw);generalize l.number x=LE at HP0 |-;generalize l.n.step x=O at HP0 hn0 hns;obtain ⟨O1,O2,O3⟩:=O;simp only at HP0 hn0 hns;have HN:=hhh hn0;have HP:=hhh HP0;have HF:=hhh (HFt.o O1 hns.1);have h3:=hns.2;clear hw hB hp hpo hf HP0 hn0 hns HFt he;go_enter func154,ntmps154;go_wp2_with (fail);refine HN.o.mono ?_;rintro e w1 ⟨rfl,i1,o1⟩;have t1:=Own.aA.only HV.o i1 o1;have c22:=t1.has.cell b _ _ mcs 22 _ rfl;have f22:=t1.has.free b _ _ mcs 22;have HT:=hhh (fun e:Nat=>show Own.aA _ (Own.row b 178 ((Lex.mk l.state l.r l.s O1 l.rest l.kind e).cells p sv ++ post) :: hb) w _ from t1.put 22 (.int .i64 (e:Int)) _ rfl);clear t1 i1 o1 HV HN
 cases O2
 ·rcases Nat.eq_zero_or_pos O3 with h0 | h0
  ·subst h0
   have HP1:=hhh (show LE=_ by rw [HP.o,ifn (by simp)]);have HE:=hhh (kO (HI.o O1 0) (HT.o 0).has HF.o);have hes:(Lex.mk l.state l.r l.s O1 l.rest l.kind 0).ended.1.e ≠ 0 \/ ∃ t,(Lex.mk l.state l.r l.s O1 l.rest l.kind 0).ended.2=[t]:=by
    unfold Lex.ended;split
    ·rename_i h;exact .inl h
    ·exact .inr ⟨_,rfl⟩
   have HX:=hhh hes;generalize (Lex.mk l.state l.r l.s O1 l.rest l.kind 0).ended=M at HP1 HE HX;obtain ⟨M1,M2⟩:=M;simp only at HP1 HE HX;clear hes HP;go_wp2_with (fail);refine HE.o.mono ?_;rintro e w2 ⟨v,hv,h2,rfl,s2,i2,t2⟩;have t3:=(HT.o 0).trans t2;have c22:=i2.eG t3.has.right;have HS2:=hhh s2;have HI2:=hhh i2;have HT3:=hhh t3;clear s2 i2 t2 t3 HE;rcases Nat.eq_zero_or_pos M1.e with hm | hm
   ·have HP2:=hhh (show LE=_ by rw [HP1.o,ifn (show ¬ M1.e ≠ 0 by omega)])
    obtain ⟨tk,htk⟩:∃ t,M2=[t]:=by
     rcases HX.o with h | h
     ·exact absurd hm h
     ·exact h
    subst htk;rw [hm] at c22;have HB:=hhh (bY HI2.o HT3.o.has.right x);have HTs:=hhh (mP M1 x);generalize M1.aK x=B at HP2 HB HTs;obtain ⟨B1,B2⟩:=B;simp only at HP2 HB HTs;clear HP1 HX hm;go_wp2_with (fail);refine HB.o.mono ?_;rintro e w3 ⟨v2,hv2,h3,rfl,s3,i3,t3⟩;have t4:=HT3.o.trans (t3.behind HT3.o.has);go_wp2_with (at_builtin;refine xN rfl _ _ rfl v v2 tk B2 HTs.o hv hv2 h3 rfl rfl HS2.o s3 ?hh ?_)
    case hh=>exact t4.has
    intro v' h' w4 s4 t5;go_wp2;go_ret;rw [HP2.o];refine ⟨v',h',h3,rfl,s4,i3,?_⟩;exact Own.aA.forget (b:=hv2) ((t4.trans t5).perm (.refl _) (Own.aE _ _ fun q=>by simp only [List.count_append];omega))
   ·have HP2:=hhh (show LE=_ by rw [HP1.o,ifp (show M1.e ≠ 0 by omega)])
    have hmb:((M1.e:Int) != 0)=true:=by simp;omega
    clear HP1 HX;go_wp2;go_ret;rw [HP2.o];exact .bJ rfl HI2.o HT3.o.forget
  ·have HP1:=hhh (show LE=_ by rw [HP.o,ifp (.inr (show O3 ≠ 0 by omega))])
   have h3b:((O3:Int) != 0)=true:=by simp;omega
   clear HP;go_wp2;go_ret;rw [HP1.o];exact .bJ rfl (HI.o O1 O3) (HT.o O3)
 ·have HP1:=hhh (show LE=_ by rw [HP.o,ifp (.inl rfl)])
  clear HP;go_wp2;go_ret;rw [HP1.o];exact .bJ rfl (HI.o O1 O3) (HT.o O3)
end
end Pip
end
section
open Go.RowKit
namespace Pip
section
variable {l:Lex} {b:Nat} {post:List Value} {h:Own.Heap} {w:World}
theorem liesL:liesAt prog prog.depth 178 (27 / prog.cellsOf 178) 10 115 1=true:=by kernel_rfl
theorem aIb (hi : l.Is b post h) (hw : Own.Has w h) (hh : l.r.whole = true) :
  Calls prog 152 #[.pointer (some ⟨b,0,none⟩),.int .u8 34] w (bR (l.text 34) b post h w):=by
 have HP:=hhh (show l.text 34=(⟨0,l.r,l.s,l.n,l.rest,l.kind,l.e⟩,[⟨115,l.s,false,0⟩]) by unfold Lex.text;rw [ifp ⟨rfl,hh⟩]);obtain ⟨hpo,p,sv,hb,hp,hB,rfl⟩:=hi;have HI:=hhh (fun hb' (hB':Own.Buf 5 l.s sv hb')=>show (Lex.mk 0 l.r l.s l.n l.rest l.kind l.e).Is b post _ from ⟨hpo,p,sv,hb',hp,hB',rfl⟩);have HW:=hhh (Esc.uR w b 178 [.int .i64 (l.state:Int)] ([p,sv] ++ (l.n.enc ++ [.string ⟨l.rest.toArray⟩,.int .u8 (l.kind.toNat:Int),.int .i64 (l.e:Int)]) ++ post) l.r (hw.is3 mcs));rw [hh] at HW;have HT:=hhh ((Own.aA.refl hw).put 0 (.int .i64 0) _ rfl);have HS:=hhh (fun u (k:Own.Has u (Own.row b 178 (([.int .i64 0] ++ l.r.enc) ++ [p,sv] ++ (l.n.enc ++ [.string ⟨l.rest.toArray⟩,.int .u8 (l.kind.toNat:Int),.int .i64 (l.e:Int)] ++ post)) :: hb))=>Bld.sZ (pre:=[.int .i64 0] ++ l.r.enc) hB k);have c0:=hw.cell b _ _ mcs 0 _ rfl;have f0:=hw.free b _ _ mcs 0;clear hw hB hp hpo hh;generalize l.text 34=LT at HP |-;go_enter func152,ntmps152;go_wp2_with (fail);refine HW.o.mono ?_;rintro e w' ⟨rfl,rfl⟩;go_wp2_with (fail);refine (HS.o _ HT.o.has).mono ?_;rintro e w1 ⟨rfl,hb',hB',t1⟩;have t2:=HT.o.trans t1;go_wp2;go_ret;rw [HP.o];exact .one ⟨115,l.s,false,0⟩ rfl (HI.o _ hB') t2
theorem aC0 (hi : l.Is b post h) (hw : Own.Has w h) (hf : l.Fits) (he : l.e = 0) (x : UInt8) (hx : x.toNat ≠ 34 ∨ l.r.whole = false) :
  Calls prog 152 #[.pointer (some ⟨b,0,none⟩),.int .u8 (x.toNat:Int)] w (bR (l.text x) b post h w):=by
 have HP0 : l.text x = (⟨l.state, (l.r.step x).1, l.s ++ (l.r.step x).2.1, l.n, l.rest, l.kind,
   if (l.r.step x).2.2=0 /\ 200 < (l.s ++ (l.r.step x).2.1).length then 5 else (l.r.step x).2.2⟩,[]):=by
  unfold Lex.text;rw [ifn];rintro ⟨h1,h2⟩;rcases hx with h3 | h3
  ·exact h3 (by rw [h1];rfl)
  ·rw [h2] at h3;cases h3
 have hl4:=Esc.nS l.r x;have he2:=mO l.r hf.r x;have hsl:=hf.small he;obtain ⟨hpo,p,sv,hb,hp,hB,rfl⟩:=hi;have HW:=hhh (Esc.uR w b 178 [.int .i64 (l.state:Int)] ([p,sv] ++ (l.n.enc ++ [.string ⟨l.rest.toArray⟩,.int .u8 (l.kind.toNat:Int),.int .i64 (l.e:Int)]) ++ post) l.r (hw.is3 mcs));have HS:=hhh (Esc.dN w b 178 [.int .i64 (l.state:Int)] ([p,sv] ++ (l.n.enc ++ [.string ⟨l.rest.toArray⟩,.int .u8 (l.kind.toNat:Int),.int .i64 (l.e:Int)]) ++ post) l.r x hf.r (hw.is3 mcs));have HV:=hhh (show Own.Has w (Own.row b 178 ([.int .i64 (l.state:Int)] ++ l.r.enc ++ ([p,sv] ++ (l.n.enc ++ [.string ⟨l.rest.toArray⟩,.int .u8 (l.kind.toNat:Int),.int .i64 (l.e:Int)]) ++ post)) :: hb) from hw);generalize l.text x=LT at HP0 |-;generalize l.r.step x=O at HP0 hl4 he2 HS;have HP:=hhh HP0;have hz:(⟨O.2.1.toArray⟩:ByteArray).size=O.2.1.length:=List.size_toArray ..;have hd:(⟨O.2.1.toArray⟩:ByteArray).data.toList=O.2.1:=rfl
 have HB:=hhh (fun u (k:Own.Has u (Own.row b 178 (([.int .i64 (l.state:Int)] ++ O.1.enc) ++ [p,sv] ++ (l.n.enc ++ [.string ⟨l.rest.toArray⟩,.int .u8 (l.kind.toNat:Int),.int .i64 (l.e:Int)] ++ post)) :: hb)) =>
  Bld.aL6 (N:=27) (pre:=[.int .i64 (l.state:Int)] ++ O.1.enc) liesL (by simp [Esc.Rdr.enc,Esc.Chk.enc,Num.enc,hpo]) ⟨O.2.1.toArray⟩ hB k hp (by omega))
 have HI:=hhh (fun e sv' hb' (hB':Own.Buf 5 (l.s ++ O.2.1) sv' hb')=>show (Lex.mk l.state O.1 (l.s ++ O.2.1) l.n l.rest l.kind e).Is b post _ from ⟨hpo,.pointer (some ⟨b,10,none⟩),sv',hb',.inr rfl,hB',rfl⟩);have HL:=hhh (show (l.s ++ O.2.1).length=l.s.length + O.2.1.length from lla);obtain ⟨OS,hOS⟩:∃ S:ByteArray,S=⟨O.2.1.toArray⟩:=⟨_,rfl⟩;rw [<- hOS] at HB hz hd;obtain ⟨OE,hOE⟩:∃ E,E=O.2.2:=⟨_,rfl⟩;rw [<- hOE] at HP he2;have HSo:=hhh (show Esc.mD O = .returned (.tuple #[.string OS,.int .i64 (OE:Int)]) by rw [hOS,hOE];rfl);have hzs:OS.size <= 4:=by omega
 have Hd:=hhh hd;clear hw hB hp hpo HP0 hz hd hOS hOE hf he;have hsplit:((x.toNat:Int) == 34)=false \/ (((x.toNat:Int) == 34)=true /\ l.r.whole=false):=by
  by_cases h:x.toNat=34
  ·rcases hx with h2 | h2
   ·exact absurd h h2
   ·exact .inr ⟨yb x 34 (by omega),h2⟩
  ·exact .inl (nb x 34 (by omega))
 clear hx;have fin:∀ (w1:World) (sv':Value) (hb':Own.Heap) (W:World),Own.Buf 5 (l.s ++ O.2.1) sv' hb' -> True:=fun _ _ _ _ _=>trivial
 clear fin;rcases hsplit with t34 | ⟨t34,hwh⟩
 ·go_enter func152,ntmps152
  go_wp2_with (fail);refine HS.o.mono ?_;rw [HSo.o];rintro e w1 ⟨rfl,i1,o1⟩;have t1:=Own.aA.only HV.o i1 o1;go_wp2_with (fail);refine (HB.o _ t1.has).mono ?_;rintro e w2 ⟨rfl,sv',hb',hB',t2⟩;rw [Hd.o] at hB';have t3:=t1.trans t2;have c22:=t3.has.cell b _ _ mcs 22 _ rfl;have f22:=t3.has.free b _ _ mcs 22;have HT4:=hhh (fun e=>t3.put 22 (.int .i64 e) _ rfl);obtain ⟨a',c',rfl⟩:=hB'.len;have c11:=t3.has.cell b _ _ mcs 11 _ rfl;rw [HL.o] at c11;have HI2:=hhh (fun e=>HI.o e _ _ hB');clear t1 t2 t3 i1 o1 hB';generalize l.s.length + O.2.1.length=K at c11 HL;rcases Nat.eq_zero_or_pos OE with h0 | h0
  ·have HP2:=hhh (show LT=_ by rw [HP.o,HL.o,h0])
   subst h0;by_cases h200:200 < K
   ·have HP3:=hhh (show LT=_ by rw [HP2.o,ifp ⟨rfl,h200⟩])
    have h200I:(200:Int) < (K:Int):=by omega
    have c22b:=(HT4.o 0).has.cell b _ _ mcs 22 _ rfl;have f22b:=(HT4.o 0).has.free b _ _ mcs 22;have HT5:=hhh ((HT4.o 0).put 22 (.int .i64 5) _ rfl);clear HP HP2 h200;go_wp2;go_ret;rw [HP3.o];exact .bJ rfl (HI2.o _) HT5.o
   ·have HP3:=hhh (show LT=_ by rw [HP2.o,ifn (fun e=>h200 e.2)])
    have h200I:(K:Int) <= 200:=by omega
    clear HP HP2 h200;go_wp2;go_ret;rw [HP3.o];exact .bJ rfl (HI2.o _) (HT4.o _)
  ·have HP3:=hhh (show LT=_ by rw [HP.o,ifn (fun e=>by omega)])
   have hne:((OE:Int) == 0)=false:=by simp;omega
   clear HP;go_wp2;go_ret;rw [HP3.o];exact .bJ rfl (HI2.o _) (HT4.o _)
 ·go_enter func152,ntmps152
  go_wp2_with (fail);refine HW.o.mono ?_;rintro e w' ⟨rfl,rfl⟩;rw [hwh];clear hwh;go_wp2_with (fail);refine HS.o.mono ?_;rw [HSo.o];rintro e w1 ⟨rfl,i1,o1⟩;have t1:=Own.aA.only HV.o i1 o1;go_wp2_with (fail);refine (HB.o _ t1.has).mono ?_;rintro e w2 ⟨rfl,sv',hb',hB',t2⟩;rw [Hd.o] at hB';have t3:=t1.trans t2;have c22:=t3.has.cell b _ _ mcs 22 _ rfl;have f22:=t3.has.free b _ _ mcs 22;have HT4:=hhh (fun e=>t3.put 22 (.int .i64 e) _ rfl);obtain ⟨a',c',rfl⟩:=hB'.len;have c11:=t3.has.cell b _ _ mcs 11 _ rfl;rw [HL.o] at c11;have HI2:=hhh (fun e=>HI.o e _ _ hB');clear t1 t2 t3 i1 o1 hB';generalize l.s.length + O.2.1.length=K at c11 HL;rcases Nat.eq_zero_or_pos OE with h0 | h0
  ·have HP2:=hhh (show LT=_ by rw [HP.o,HL.o,h0])
   subst h0;by_cases h200:200 < K
   ·have HP3:=hhh (show LT=_ by rw [HP2.o,ifp ⟨rfl,h200⟩])
    have h200I:(200:Int) < (K:Int):=by omega
    have c22b:=(HT4.o 0).has.cell b _ _ mcs 22 _ rfl;have f22b:=(HT4.o 0).has.free b _ _ mcs 22;have HT5:=hhh ((HT4.o 0).put 22 (.int .i64 5) _ rfl);clear HP HP2 h200;go_wp2;go_ret;rw [HP3.o];exact .bJ rfl (HI2.o _) HT5.o
   ·have HP3:=hhh (show LT=_ by rw [HP2.o,ifn (fun e=>h200 e.2)])
    have h200I:(K:Int) <= 200:=by omega
    clear HP HP2 h200;go_wp2;go_ret;rw [HP3.o];exact .bJ rfl (HI2.o _) (HT4.o _)
  ·have HP3:=hhh (show LT=_ by rw [HP.o,ifn (fun e=>by omega)])
   have hne:((OE:Int) == 0)=false:=by simp;omega
   clear HP;go_wp2;go_ret;rw [HP3.o];exact .bJ rfl (HI2.o _) (HT4.o _)
theorem aIj (hi : l.Is b post h) (hw : Own.Has w h) (hf : l.Fits) (he : l.e = 0) (x : UInt8) :
  Calls prog 152 #[.pointer (some ⟨b,0,none⟩),.int .u8 (x.toNat:Int)] w (bR (l.text x) b post h w):=by
 by_cases h34:x.toNat=34
 ·cases hh:l.r.whole with
  | true=>obtain rfl:=eqb x 34 h34;exact aIb hi hw hh
  | false=>exact aC0 hi hw hf he x (.inr hh)
 ·exact aC0 hi hw hf he x (.inl h34)
end
end Pip
end
section
open Go.RowKit
namespace Pip
def mS (o:Lex × List Tok × Nat) (b:Nat) (post:List Value) (h:Own.Heap) (w:World) (e:Ending) (w':World):Prop :=
 ∃ v hv h',e = .returned (.tuple #[v,.int .i64 (o.2.2:Int)]) /\ Own.Slk 4 210 o.2.1.length (cR o.2.1) v hv /\ o.1.Is b post h' /\ Own.aA h (hv ++ h') w w'
theorem mS.bJ {o:Lex × List Tok × Nat} {b:Nat} {post:List Value} {h h':Own.Heap} {w w':World} (n:Nat) (h2:o.2=([],n)) (hI:o.1.Is b post h') (t:Own.aA h h' w w'):mS o b post h w (.returned (.tuple #[.slice none 0 0,.int .i64 (n:Int)])) w':=by
 refine ⟨.slice none 0 0,[],h',by rw [h2],?_,hI,t⟩;rw [h2];exact .bare _ rfl rfl
section
variable {l:Lex} {b:Nat} {post:List Value} {h:Own.Heap} {w:World}
theorem aD4 (hi : l.Is b post h) (hw : Own.Has w h) (hf : l.Fits) (x : UInt8) :
  Calls prog 150 #[.pointer (some ⟨b,0,none⟩),.int .u8 (x.toNat:Int)] w (mS (l.step x) b post h w):=by
 have c22:=hi.eG hw;have c0:=hi.vF hw;by_cases he:l.e=0
 ·have HP0:l.step x=if (l.act x).1.e ≠ 0 then ((l.act x).1,[],(l.act x).1.e) else ((l.act x).1,(l.act x).2,0):=by unfold Lex.step;rw [ifn (by simp [he])]
  rw [he] at c22;generalize l.step x=LS at HP0 |-;have HP:=hhh HP0;have hst:=hf.state;rcases (show l.state=0 \/ l.state=1 \/ l.state=2 \/ l.state=3 by omega) with hk | hk | hk | hk
  ·have HA:=hhh (bY hi hw x)
   rw [show l.aK x=l.act x by unfold Lex.act;rw [hk];rfl] at HA;rw [hk] at c0;generalize l.act x=O at HA HP;clear hi hw hf he HP0 hst hk;go_enter func150,ntmps150;go_wp2_with (fail);refine HA.o.mono ?_;rintro e w1 ⟨v,hv,h1,rfl,s1,i1,t1⟩;have c22:=i1.eG t1.has.right;rcases Nat.eq_zero_or_pos O.1.e with hm | hm
   ·have HP2:=hhh (show LS=_ by rw [HP.o,ifn (show ¬ O.1.e ≠ 0 by omega)])
    rw [hm] at c22;clear HP hm;go_wp2;go_ret2;rw [HP2.o];exact ⟨_,_,_,rfl,s1,i1,t1⟩
   ·have HP2:=hhh (show LS=_ by rw [HP.o,ifp (show O.1.e ≠ 0 by omega)])
    have hmb:((O.1.e:Int) != 0)=true:=by simp;omega
    clear HP;go_wp2;go_quiet (fail);go_wp2;go_ret2;rw [HP2.o];exact .bJ _ rfl i1 (t1.forget.drewN _)
  ·have HA:=hhh (aIj hi hw hf he x)
   rw [show l.text x=l.act x by unfold Lex.act;rw [hk];rfl] at HA;rw [hk] at c0;generalize l.act x=O at HA HP;clear hi hw hf he HP0 hst hk;go_enter func150,ntmps150;go_wp2_with (fail);refine HA.o.mono ?_;rintro e w1 ⟨v,hv,h1,rfl,s1,i1,t1⟩;have c22:=i1.eG t1.has.right;rcases Nat.eq_zero_or_pos O.1.e with hm | hm
   ·have HP2:=hhh (show LS=_ by rw [HP.o,ifn (show ¬ O.1.e ≠ 0 by omega)])
    rw [hm] at c22;clear HP hm;go_wp2;go_ret2;rw [HP2.o];exact ⟨_,_,_,rfl,s1,i1,t1⟩
   ·have HP2:=hhh (show LS=_ by rw [HP.o,ifp (show O.1.e ≠ 0 by omega)])
    have hmb:((O.1.e:Int) != 0)=true:=by simp;omega
    clear HP;go_wp2;go_quiet (fail);go_wp2;go_ret2;rw [HP2.o];exact .bJ _ rfl i1 (t1.forget.drewN _)
  ·have HA:=hhh (zO hi hw hf he x)
   rw [show l.number x=l.act x by unfold Lex.act;rw [hk];rfl] at HA;rw [hk] at c0;generalize l.act x=O at HA HP;clear hi hw hf he HP0 hst hk;go_enter func150,ntmps150;go_wp2_with (fail);refine HA.o.mono ?_;rintro e w1 ⟨v,hv,h1,rfl,s1,i1,t1⟩;have c22:=i1.eG t1.has.right;rcases Nat.eq_zero_or_pos O.1.e with hm | hm
   ·have HP2:=hhh (show LS=_ by rw [HP.o,ifn (show ¬ O.1.e ≠ 0 by omega)])
    rw [hm] at c22;clear HP hm;go_wp2;go_ret2;rw [HP2.o];exact ⟨_,_,_,rfl,s1,i1,t1⟩
   ·have HP2:=hhh (show LS=_ by rw [HP.o,ifp (show O.1.e ≠ 0 by omega)])
    have hmb:((O.1.e:Int) != 0)=true:=by simp;omega
    clear HP;go_wp2;go_quiet (fail);go_wp2;go_ret2;rw [HP2.o];exact .bJ _ rfl i1 (t1.forget.drewN _)
  ·have HA:=hhh (aIl hi hw hf x)
   rw [show l.word x=l.act x by unfold Lex.act;rw [hk];rfl] at HA;rw [hk] at c0;generalize l.act x=O at HA HP;clear hi hw hf he HP0 hst hk;go_enter func150,ntmps150;go_wp2_with (fail);refine HA.o.mono ?_;rintro e w1 ⟨v,hv,h1,rfl,s1,i1,t1⟩;have c22:=i1.eG t1.has.right;rcases Nat.eq_zero_or_pos O.1.e with hm | hm
   ·have HP2:=hhh (show LS=_ by rw [HP.o,ifn (show ¬ O.1.e ≠ 0 by omega)])
    rw [hm] at c22;clear HP hm;go_wp2;go_ret2;rw [HP2.o];exact ⟨_,_,_,rfl,s1,i1,t1⟩
   ·have HP2:=hhh (show LS=_ by rw [HP.o,ifp (show O.1.e ≠ 0 by omega)])
    have hmb:((O.1.e:Int) != 0)=true:=by simp;omega
    clear HP;go_wp2;go_quiet (fail);go_wp2;go_ret2;rw [HP2.o];exact .bJ _ rfl i1 (t1.forget.drewN _)
 ·have HP:=hhh (show l.step x=(l,[],l.e) by unfold Lex.step;rw [ifp he])
  have hmb:((l.e:Int) != 0)=true:=by simp;omega
  have HI:=hhh hi;have HW:=hhh hw;clear hi hw hf he;go_enter func150,ntmps150;go_wp2;go_quiet (fail);go_wp2;go_ret2;rw [HP.o];exact .bJ _ rfl HI.o ((Own.aA.refl HW.o).drewN _)
theorem aGc (hi : l.Is b post h) (hw : Own.Has w h) (hf : l.Fits) :
  Calls prog 107 #[.pointer (some ⟨b,0,none⟩)] w (mS l.fin b post h w):=by
 have c22:=hi.eG hw;have c0:=hi.vF hw;have hst:=hf.state;by_cases he:l.e=0
 ·rcases (show l.state=0 \/ l.state=2 \/ (l.state=1 \/ l.state=3) by omega) with hk | hk | hk
  ·have HP:=hhh (show l.fin=(l,[],0) by unfold Lex.fin;rw [ifp (.inr hk),he])
   rw [hk] at c0;rw [he] at c22;have HI:=hhh hi;have HW:=hhh hw;clear hi hw hf he hst hk;go_enter func107,ntmps107;go_wp2;go_quiet (fail);go_wp2;go_ret2;rw [HP.o];exact .bJ 0 rfl HI.o ((Own.aA.refl HW.o).drewN _)
  ·have HP:=hhh (show l.fin=(l.ended.1,l.ended.2,l.ended.1.e) by unfold Lex.fin;rw [ifn (by omega),ifp hk])
   have HE:=hhh (kO hi hw hf);rw [hk] at c0;rw [he] at c22;generalize l.ended=O at HE HP;generalize l.fin=LF at HP |-;clear hi hw hf he hst hk;go_enter func107,ntmps107;go_wp2_with (fail);refine HE.o.mono ?_;rintro e w1 ⟨v,hv,h1,rfl,s1,i1,t1⟩;have c22:=i1.eG t1.has.right;go_wp2;go_quiet (fail);go_wp2;go_ret2;rw [HP.o];exact ⟨_,_,_,rfl,s1,i1,t1.drewN _⟩
  ·have HP:=hhh (show l.fin=(⟨l.state,l.r,l.s,l.n,l.rest,l.kind,3⟩,[],3) by unfold Lex.fin;rw [ifn (by omega),ifn (by omega)])
   rw [he] at c22;obtain ⟨hpo,p,sv,hb,hp,hB,rfl⟩:=hi;have HI:=hhh (show (Lex.mk l.state l.r l.s l.n l.rest l.kind 3).Is b post _ from ⟨hpo,p,sv,hb,hp,hB,rfl⟩);have HT:=hhh ((Own.aA.refl hw).put 22 (.int .i64 3) _ rfl);have f22:=hw.free b _ _ mcs 22;generalize l.fin=LF at HP |-;clear hw hf he hst hpo hp hB;rcases hk with hk | hk
   all_goals
    rw [hk] at c0;clear hk;go_enter func107,ntmps107;go_wp2;go_quiet (fail);go_wp2;go_ret2;rw [HP.o];exact .bJ 3 rfl HI.o (HT.o.drewN _)
 ·have HP:=hhh (show l.fin=(l,[],l.e) by unfold Lex.fin;rw [ifp (.inl he)])
  have hmb:((l.e:Int) != 0)=true:=by simp;omega
  have HI:=hhh hi;have HW:=hhh hw;clear hi hw hf he hst c0;go_enter func107,ntmps107;go_wp2;go_quiet (fail);go_wp2;go_ret2;rw [HP.o];exact .bJ _ rfl HI.o ((Own.aA.refl HW.o).drewN _)
theorem aFt (hi : l.Is b post h) (hw : Own.Has w h) :
  Calls prog 149 #[.pointer (some ⟨b,0,none⟩)] w fun e w'=>e = .returned (.int .i64 (l.held:Int)) /\ w'=w:=by
 have c22:=hi.eG hw;have c0:=hi.vF hw;obtain ⟨hpo,p,sv,hb,hp,hB,rfl⟩:=hi;obtain ⟨a,c,rfl⟩:=hB.len;have c11:=hw.cell b _ _ mcs 11 _ rfl;by_cases he:l.e=0
 ·by_cases hs:l.state=1
  ·have HP:=hhh (show l.held=l.s.length by unfold Lex.held;rw [ifn (by omega)])
   rw [hs] at c0;rw [he] at c22;clear hB hw hp hpo he hs;go_enter func149,ntmps149;go_wp2;go_ret;exact ⟨by rw [HP.o];rfl,rfl⟩
  ·have HP:=hhh (show l.held=0 by unfold Lex.held;rw [ifp (.inr hs)])
   have hsb:((l.state:Int) != 1)=true:=by simp;omega
   rw [he] at c22;clear hB hw hp hpo he hs;go_enter func149,ntmps149;go_wp2;go_ret;exact ⟨by rw [HP.o];rfl,rfl⟩
 ·have HP:=hhh (show l.held=0 by unfold Lex.held;rw [ifp (.inl he)])
  have hmb:((l.e:Int) != 0)=true:=by simp;omega
  clear hB hw hp hpo he;go_enter func149,ntmps149;go_wp2;go_ret;exact ⟨by rw [HP.o];rfl,rfl⟩
end
end Pip
end
section
open Go.RowKit
open Json (Part)
namespace Pip
def Tok.val (t:Tok):Value:=.agg #[.int .u8 (t.kind.toNat:Int),.string ⟨t.text.toArray⟩,.bool t.neg,.int .u64 (t.mag:Int)]
def told:Option Part -> Value
 | none=>.nilIface
 | some p=>p.val
def Jin.Is (p:Jin) (b:Nat) (h:Own.Heap):Prop :=
 ∃ mv hm hl,Own.Slc 4 (p.maps.map Value.bool) mv hm /\ p.l.Is b [.int .i64 (p.depth:Int),mv,.int .i64 (p.next:Int),.int .i64 (p.e:Int)] hl /\ h=hl ++ hm
theorem Jin.Is.opened {p : Jin} {b : Nat} {h : Own.Heap} (hi : p.Is b h) : ∃ pv sv hb a c hm, h = Own.row b 178 (p.l.cells pv sv ++ [.int .i64 (p.depth : Int), .slice a p.maps.length c, .int .i64 (p.next : Int), .int .i64 (p.e : Int)]) :: (hb ++ hm) ∧
  Own.Slc 4 (p.maps.map Value.bool) (.slice a p.maps.length c) hm /\
  (∀ (d n e:Nat) (m:List Bool) (mv:Value) (hm':Own.Heap),Own.Slc 4 (m.map Value.bool) mv hm' -> (Jin.mk p.l d m n e).Is b (Own.row b 178 (p.l.cells pv sv ++ [.int .i64 (d:Int),mv,.int .i64 (n:Int),.int .i64 (e:Int)]) :: (hb ++ hm'))):=by
 obtain ⟨mv,hm,hl,hs,⟨_,pv,sv,hb,hp,hB,rfl⟩,rfl⟩:=hi;obtain ⟨a,c,rfl⟩:=hs.len;rw [List.length_map] at hs |-;exact ⟨pv,sv,hb,a,c,hm,rfl,hs,fun d n e m mv hm' hs'=>⟨mv,hm',_,hs',⟨rfl,pv,sv,hb,hp,hB,rfl⟩,rfl⟩⟩
def fI (o:Jin × Option Part) (b:Nat) (h:Own.Heap) (w:World) (e:Ending) (w':World):Prop :=
 ∃ h',e = .returned (.tuple #[told o.2,.bool o.2.isSome]) /\ o.1.Is b h' /\ Own.aA h h' w w'
section
variable {p:Jin} {b:Nat} {h:Own.Heap} {w:World}
theorem hJ (hi : p.Is b h) (hw : Own.Has w h) :
  Calls prog 126 #[.pointer (some ⟨b,0,none⟩)] w fun e w'=>e = .returned (.tuple #[]) /\ ∃ h',(Jin.mk p.l p.depth p.maps (behind p.maps) p.e).Is b h' /\ Own.aA h h' w w':=by
 obtain ⟨pv,sv,hb,a,c,hm,rfl,hs,HI0⟩:=hi.opened;have HI:=hhh (fun n=>HI0 p.depth n p.e p.maps _ hm hs);have c24:=hw.cell b _ _ mcs 24 _ rfl;have c25:=hw.cell b _ _ mcs 25 _ rfl;have f25:=hw.free b _ _ mcs 25;have HT:=hhh ((Own.aA.refl hw).put 25 (.int .i64 5) _ rfl);have HT2:=hhh (((Own.aA.refl hw).put 25 (.int .i64 5) _ rfl).put 25 (.int .i64 6) _ rfl);have HP0:behind p.maps=if p.maps.length=0 then 6 else 5:=rfl
 generalize behind p.maps=B at HP0 |-;have HP:=hhh HP0;clear HI0 hs hw HP0 hi;rcases Nat.eq_zero_or_pos p.maps.length with h0 | h0
 ·have HB:=hhh (show B=6 by rw [HP.o,ifp h0])
  rw [h0] at c24;clear HP;go_enter func126,ntmps126;go_wp2;go_end0;rw [HB.o];exact ⟨rfl,_,HI.o 6,HT2.o⟩
 ·have HB:=hhh (show B=5 by rw [HP.o,ifn (by omega)])
  have hb0:((p.maps.length:Int) == 0)=false:=by rw [bfn];omega
  have hb1:¬ (p.maps.length:Int)=0:=by omega
  clear HP;go_enter func126,ntmps126;go_wp2;go_end0;rw [HB.o];exact ⟨rfl,_,HI.o 5,HT.o⟩
theorem gC (hi : p.Is b h) (hw : Own.Has w h) (t : Tok) (v : Part)
  (hk:(t.kind=115 /\ v = .word ⟨t.text.toArray⟩) \/ (t.kind=110 /\ v = .whole t.neg t.mag) \/ (t.kind=116 /\ v = .bool true) \/ (t.kind=102 /\ v = .bool false) \/ (t.kind=48 /\ v = .null)) :
  Calls prog 127 #[.pointer (some ⟨b,0,none⟩),t.val] w (fI (p.value t) b h w):=by
 have HP:=hhh (show p.value t=(⟨p.l,p.depth,p.maps,behind p.maps,p.e⟩,some v) by
  rcases hk with ⟨h1,rfl⟩ | ⟨h1,rfl⟩ | ⟨h1,rfl⟩ | ⟨h1,rfl⟩ | ⟨h1,rfl⟩ <;> simp [Jin.value,h1])
 have HB:=hhh (fun o=>hJ hi ((Own.aA.refl hw).aD o).has);have HW:=hhh hw;obtain ⟨k,tx,ng,mg⟩:=t;simp only at hk;generalize p.value _=PV at HP |-;clear hi hw;simp only [Tok.val];obtain ⟨TX,hTX⟩:∃ TX:ByteArray,TX=⟨tx.toArray⟩:=⟨_,rfl⟩;rw [<- hTX] at hk |-;clear hTX;rcases hk with ⟨rfl,rfl⟩ | ⟨rfl,rfl⟩ | ⟨rfl,rfl⟩ | ⟨rfl,rfl⟩ | ⟨rfl,rfl⟩
 all_goals
  go_enter func127,ntmps127;go_wp2_with (fail);refine (HB.o _).mono ?_;rintro e w1 ⟨rfl,h1,i1,t1⟩;go_wp2;go_ret2;rw [HP.o];exact ⟨h1,rfl,i1,((Own.aA.refl HW.o).aD _).trans t1⟩
end
end Pip
end
section
open Go.RowKit
open Json (Part)
namespace Pip
theorem wG (W:World) (x:Value) (T:TypeId) (k:Nat) (hk:W.heap.size=k):(W.alloc (.cells #[x] T)).cell? ⟨k,0,none⟩=some x:=by
 subst hk;have h:=heap_alloc_new W (.cells #[x] T);simp only [World.cell?,h];rfl
theorem infoBool:(prog.info? 4).map (fun i=>(i.zero,i.size,i.bytes))=some (some (.bool false),1,1):=by kernel_rfl
section
variable {p:Jin} {b:Nat} {h:Own.Heap} {w:World}
theorem aEs (hi : p.Is b h) (hw : Own.Has w h) (t : Tok) (h1 : t.kind.toNat ≠ 91) (h2 : t.kind.toNat ≠ 123) (h3 : t.kind.toNat ≠ 115) (h4 : t.kind.toNat ≠ 110) (h5 : t.kind.toNat ≠ 116) (h6 : t.kind.toNat ≠ 102) (h7 : t.kind.toNat ≠ 48) :
  Calls prog 127 #[.pointer (some ⟨b,0,none⟩),t.val] w (fI (p.value t) b h w):=by
 have HP:=hhh (show p.value t=(⟨p.l,p.depth,p.maps,p.next,2⟩,none) by
  simp [Jin.value,neb t.kind 91 h1,neb t.kind 123 h2,neb t.kind 115 h3,neb t.kind 110 h4,neb t.kind 116 h5,neb t.kind 102 h6,neb t.kind 48 h7])
 have t91:=nb t.kind 91 (by omega);have t123:=nb t.kind 123 (by omega);have t115:=nb t.kind 115 (by omega);have t110:=nb t.kind 110 (by omega);have t116:=nb t.kind 116 (by omega);have t102:=nb t.kind 102 (by omega);have t48:=nb t.kind 48 (by omega);obtain ⟨pv,sv,hb,a,c,hm,rfl,hs,HI0⟩:=hi.opened;have HI:=hhh (HI0 p.depth p.next 2 p.maps _ hm hs);have HT:=hhh (fun o=>((Own.aA.refl hw).aD o).put 26 (.int .i64 2) _ rfl);have c26:=fun o=>((Own.aA.refl hw).aD o).has.cell b _ _ mcs 26 _ rfl
 have f26:=fun o=>((Own.aA.refl hw).aD o).has.free b _ _ mcs 26
 have hlt:=hw.cL;have hne:¬ b=w.heap.size:=by omega
 have hne':¬ w.heap.size=b:=by omega
 obtain ⟨k,tx,ng,mg⟩:=t;simp only at t91 t123 t115 t110 t116 t102 t48;generalize p.value _=PV at HP |-;clear hi hw hs HI0 h1 h2 h3 h4 h5 h6 h7 hlt;simp only [Tok.val];go_enter func127,ntmps127;go_wp2;go_ret2;rw [HP.o];exact ⟨_,rfl,HI.o,HT.o _⟩
theorem aB4 (hi : p.Is b h) (hw : Own.Has w h) (t : Tok) (hk : t.kind = 91 ∨ t.kind = 123) (hd : p.maps.length = p.depth) :
  Calls prog 127 #[.pointer (some ⟨b,0,none⟩),t.val] w (fI (p.value t) b h w):=by
 have HP:=hhh (show p.value t=(⟨p.l,p.depth,p.maps,p.next,4⟩,none) by
  unfold Jin.value;rw [ifp hk,ifp hd])
 obtain ⟨pv,sv,hb,a,c,hm,rfl,hs,HI0⟩:=hi.opened;have HI:=hhh (HI0 p.depth p.next 4 p.maps _ hm hs);have HT:=hhh (fun o n=>(((Own.aA.refl hw).aD o).drewN n).put 26 (.int .i64 4) _ rfl);have c23:=fun o=>((Own.aA.refl hw).aD o).has.cell b _ _ mcs 23 _ rfl
 have c24:=fun o=>((Own.aA.refl hw).aD o).has.cell b _ _ mcs 24 _ rfl
 have c26:=fun o=>((Own.aA.refl hw).aD o).has.cell b _ _ mcs 26 _ rfl
 have f26:=fun o=>((Own.aA.refl hw).aD o).has.free b _ _ mcs 26
 rw [<- hd] at c23;generalize hM:p.maps.length=M at c23 c24 HI HT |-;have hlt:=hw.cL;have hne:¬ b=w.heap.size:=by omega
 have hne':¬ w.heap.size=b:=by omega
 obtain ⟨k,tx,ng,mg⟩:=t;generalize p.value _=PV at HP |-;have HM:=hhh hM;clear hi hw hs HI0 hd hlt hM;simp only [Tok.val];simp only at hk;rcases hk with rfl | rfl
 all_goals
  go_enter func127,ntmps127;go_wp2;go_quiet (fail);go_wp2;go_ret2;rw [HP.o];exact ⟨_,rfl,HI.o,HT.o _ _⟩
end
end Pip
end
section
open Go.RowKit
open Json (Part)
namespace Pip
section
variable {p:Jin} {b:Nat} {h:Own.Heap} {w:World}
theorem aA9 (hi : p.Is b h) (hw : Own.Has w h) (hf : p.Fits) (t : Tok) (hk : t.kind = 91 ∨ t.kind = 123) (hd : p.maps.length ≠ p.depth) :
  Calls prog 127 #[.pointer (some ⟨b,0,none⟩),t.val] w (fI (p.value t) b h w):=by
 obtain ⟨i0,hi0,e0⟩:=Option.map_eq_some_iff.1 infoBool;simp only [Prod.mk.injEq] at e0;obtain ⟨hz,hsz,hby⟩:=e0
 have HP:=hhh (show p.value t=(⟨p.l,p.depth,p.maps ++ [t.kind == 123],if t.kind=123 then 2 else 1,p.e⟩,some (.aG (t.kind == 123) (-1))) by
  unfold Jin.value;rw [ifp hk,ifn hd])
 obtain ⟨pv,sv,hb,a,c,hm,rfl,hs,HI0⟩:=hi.opened;have HI:=hhh (fun m n mv hm' hs'=>HI0 p.depth n p.e m mv hm' hs');have HV:=hhh hw;have hM16:p.maps.length <= 16:=Nat.le_trans hf.maps hf.depth;have hneq:((p.maps.length:Int) == (p.depth:Int))=false:=by rw [bfn];omega
 have c23:=fun o=>((Own.aA.refl hw).aD o).has.cell b _ _ mcs 23 _ rfl
 have c24:=fun o=>((Own.aA.refl hw).aD o).has.cell b _ _ mcs 24 _ rfl
 have hln:(p.maps.map Value.bool).length=p.maps.length:=List.length_map ..;generalize p.maps.length=M at c23 c24 hM16 hneq hs hln HV HI |-;have hlt:=hw.cL;have hne:¬ b=w.heap.size:=by omega
 have hne':¬ w.heap.size=b:=by omega
 have hne1:¬ b=w.heap.size + 1:=by omega
 have hne1':¬ w.heap.size + 1=b:=by omega
 obtain ⟨k,tx,ng,mg⟩:=t;generalize p.value _=PV at HP |-;have HS:=hhh hs;have HLN:=hhh hln;have c24b:=fun o n o'=>((((Own.aA.refl HV.o).aD o).drewN n).aD o').has.cell b _ _ mcs 24 _ rfl
 have HW2:=hhh (fun (K:Int) (tx:ByteArray) (ng:Bool) (mg:Nat) (n:Nat) (o':Obj)=>((((show Own.aA _ (Own.row w.heap.size 210 [.int .u8 K,.string tx,.bool ng,.int .u64 (mg:Int)] :: (Own.row b 178 (p.l.cells pv sv ++ [.int .i64 (p.depth:Int),.slice a M c,.int .i64 (p.next:Int),.int .i64 (p.e:Int)]) :: (hb ++ hm))) _ _ from (Own.aA.refl HV.o).bC w.heap.size rfl (.cells #[.int .u8 K,.string tx,.bool ng,.int .u64 (mg:Int)] 210)).drewN n).aD o').perm (.refl _)
  (Own.aE _ (hm ++ (Own.row b 178 (p.l.cells pv sv ++ [.int .i64 (p.depth:Int),.slice a M c,.int .i64 (p.next:Int),.int .i64 (p.e:Int)]) :: (Own.row w.heap.size 210 [.int .u8 K,.string tx,.bool ng,.int .u64 (mg:Int)] :: hb))) fun x=>by simp only [List.count_append,List.count_cons];omega)))
 clear hi hw hs HI0 hd hlt hf hln;simp only [Tok.val];simp only at hk HP;rcases hk with rfl | rfl
 ·have HP2:=hhh (show PV=(⟨p.l,p.depth,p.maps ++ [false],1,p.e⟩,some (.aG false (-1))) by rw [HP.o];rfl)
  clear HP;go_enter func127,ntmps127;go_wp2;go_quiet (fail);go_wp2;go_region_law (refine Own.gH rfl _ _ 67 rfl 4 i0 (.bool false) 1 underlying67 hi0 hz hsz hby rfl (.slice a M c) (p.maps.map Value.bool) M HLN.o hm (Own.row b 178 (p.l.cells pv sv ++ [.int .i64 (p.depth:Int),.slice a M c,.int .i64 (p.next:Int),.int .i64 (p.e:Int)]) :: (Own.row w.heap.size 210 [.int .u8 91,.string ⟨tx.toArray⟩,.bool ng,.int .u64 (mg:Int)] :: hb)) rfl HS.o (HW2.o _ _ _ _ _ _).has (w.heap.size + 1) (.bool false) rfl ?c1 rfl ?c2 ?c3 ?_;(case c1=>exact wG _ _ _ _ (by simp));(case c2=>(simp only [maxLen];omega));(case c3=>omega);intro ad' c' h' w' hs' ht';have d24:=ht'.has.cell b _ _ (List.mem_append_right _ mcs) 24 _ rfl;have d25:=ht'.has.cell b _ _ (List.mem_append_right _ mcs) 25 _ rfl;have g24:=ht'.has.free b _ _ (List.mem_append_right _ mcs) 24;have g25:=ht'.has.free b _ _ (List.mem_append_right _ mcs) 25;have dk:=ht'.has.cell w.heap.size _ _ (List.mem_append_right _ (mcm _ mcs)) 0 _ rfl)
  all_goals
   have HT5:=hhh (Own.aA.drop (b:=_ :: (hb ++ h')) (c:=[_]) (((((HW2.o _ _ _ _ _ _).trans ht').perm (.refl _) (Own.aE _ (Own.row b 178 (p.l.cells pv sv ++ [.int .i64 (p.depth:Int),.slice a M c,.int .i64 (p.next:Int),.int .i64 (p.e:Int)]) :: ((hb ++ h') ++ [Own.row w.heap.size 210 [.int .u8 91,.string ⟨tx.toArray⟩,.bool ng,.int .u64 (mg:Int)]])) fun x=>by simp only [List.count_append,List.count_cons,List.count_nil];omega)).put 24 (.slice ad' (M + 1) c') _ rfl).put 25 (.int .i64 1) _ rfl));clear ht';have HS5:=hhh hs';clear hs';go_wp2;go_ret2;rw [HP2.o];refine ⟨_,rfl,HI.o (p.maps ++ [false]) 1 _ h' (by rw [List.map_append];exact HS5.o),?_⟩;exact HT5.o
 ·have HP2:=hhh (show PV=(⟨p.l,p.depth,p.maps ++ [true],2,p.e⟩,some (.aG true (-1))) by rw [HP.o];rfl)
  clear HP;go_enter func127,ntmps127;go_wp2;go_quiet (fail);go_wp2;go_region_law (refine Own.gH rfl _ _ 67 rfl 4 i0 (.bool false) 1 underlying67 hi0 hz hsz hby rfl (.slice a M c) (p.maps.map Value.bool) M HLN.o hm (Own.row b 178 (p.l.cells pv sv ++ [.int .i64 (p.depth:Int),.slice a M c,.int .i64 (p.next:Int),.int .i64 (p.e:Int)]) :: (Own.row w.heap.size 210 [.int .u8 123,.string ⟨tx.toArray⟩,.bool ng,.int .u64 (mg:Int)] :: hb)) rfl HS.o (HW2.o _ _ _ _ _ _).has (w.heap.size + 1) (.bool true) rfl ?c1 rfl ?c2 ?c3 ?_;(case c1=>exact wG _ _ _ _ (by simp));(case c2=>(simp only [maxLen];omega));(case c3=>omega);intro ad' c' h' w' hs' ht';have d24:=ht'.has.cell b _ _ (List.mem_append_right _ mcs) 24 _ rfl;have d25:=ht'.has.cell b _ _ (List.mem_append_right _ mcs) 25 _ rfl;have g24:=ht'.has.free b _ _ (List.mem_append_right _ mcs) 24;have g25:=ht'.has.free b _ _ (List.mem_append_right _ mcs) 25;have dk:=ht'.has.cell w.heap.size _ _ (List.mem_append_right _ (mcm _ mcs)) 0 _ rfl)
  all_goals
   have HT5:=hhh (Own.aA.drop (b:=_ :: (hb ++ h')) (c:=[_]) ((((((HW2.o _ _ _ _ _ _).trans ht').perm (.refl _) (Own.aE _ (Own.row b 178 (p.l.cells pv sv ++ [.int .i64 (p.depth:Int),.slice a M c,.int .i64 (p.next:Int),.int .i64 (p.e:Int)]) :: ((hb ++ h') ++ [Own.row w.heap.size 210 [.int .u8 123,.string ⟨tx.toArray⟩,.bool ng,.int .u64 (mg:Int)]])) fun x=>by simp only [List.count_append,List.count_cons,List.count_nil];omega)).put 24 (.slice ad' (M + 1) c') _ rfl).put 25 (.int .i64 1) _ rfl).put 25 (.int .i64 2) _ rfl));clear ht';have HS5:=hhh hs';clear hs';go_wp2;go_ret2;rw [HP2.o];refine ⟨_,rfl,HI.o (p.maps ++ [true]) 2 _ h' (by rw [List.map_append];exact HS5.o),?_⟩;exact HT5.o
end
end Pip
end
section
open Go.RowKit
open Json (Part)
namespace Own
theorem Slc.last {e : TypeId} {ys : List Value} {y v : Value} {h : Heap} (s : Slc e (ys ++ [y]) v h) :
  ∃ mb off c cl,v = .slice (some ⟨mb,off,none⟩) (ys.length + 1) c /\ h=[Own.row mb e cl] /\ cl[off + ys.length]? = some y /\ ys.length + 1 <= c /\ c <= maxLen /\ Slc e ys (.slice (some ⟨mb,off,none⟩) ys.length c) [Own.row mb e cl]:=by
 generalize hx:ys ++ [y]=xs at s
 cases s with
 | bare a h0=>subst h0;simp at hx
 | row mb pre spare hm =>
  subst hx;refine ⟨mb,pre.length,_,_,by rw [lla,List.length_singleton],rfl,?_,?_,?_,?_⟩
  ·rw [List.getElem?_append_right (by omega),Nat.add_sub_cancel_left,List.getElem?_append_left (by simp),List.getElem?_append_right (by omega)]
   simp
  ·simp
  ·simpa using hm
  ·have:=Slc.row (e:=e) (xs:=ys) mb pre (y :: spare) (by simp at hm |-;omega)
   simp only [List.length_cons] at this |-;rw [show ys.length + (spare.length + 1)=ys.length + (0 + 1) + spare.length by omega] at this;rw [show ys ++ [y] ++ spare=ys ++ y :: spare by simp];exact this
end Own
namespace Pip
section
variable {p:Jin} {b:Nat} {h:Own.Heap} {w:World}
theorem aEr (hi : p.Is b h) (hw : Own.Has w h) (t : Tok) (hk : t.kind = 58) (hn : p.next = 4) :
  Calls prog 120 #[.pointer (some ⟨b,0,none⟩),t.val] w (fI (p.token t) b h w):=by
 have HP:=hhh (show p.token t=(⟨p.l,p.depth,p.maps,0,p.e⟩,none) by unfold Jin.token;rw [ifp ⟨hk,hn⟩]);obtain ⟨pv,sv,hb,a,c,hm,rfl,hs,HI0⟩:=hi.opened;have HI:=hhh (HI0 p.depth 0 p.e p.maps _ hm hs);have HT:=hhh (fun o=>((Own.aA.refl hw).aD o).put 25 (.int .i64 0) _ rfl);have c24:=fun o=>((Own.aA.refl hw).aD o).has.cell b _ _ mcs 24 _ rfl
 have c25:=fun o=>((Own.aA.refl hw).aD o).has.cell b _ _ mcs 25 _ rfl
 have f25:=fun o=>((Own.aA.refl hw).aD o).has.free b _ _ mcs 25
 rw [hn] at c25;have hlt:=hw.cL;have hne:¬ b=w.heap.size:=by omega
 have hne':¬ w.heap.size=b:=by omega
 obtain ⟨k,tx,ng,mg⟩:=t;simp only at hk;subst hk;generalize p.token _=PV at HP |-;clear hi hw hs HI0 hlt hn;simp only [Tok.val];go_enter func120,ntmps120;go_wp2;go_ret2;rw [HP.o];exact ⟨_,rfl,HI.o,HT.o _⟩
theorem aJx (hi : p.Is b h) (hw : Own.Has w h) (t : Tok) (hk : t.kind = 115) (hn : p.next = 3 ∨ p.next = 2) :
  Calls prog 120 #[.pointer (some ⟨b,0,none⟩),t.val] w (fI (p.token t) b h w):=by
 have HP:=hhh (show p.token t=(⟨p.l,p.depth,p.maps,4,p.e⟩,some (.word ⟨t.text.toArray⟩)) by
  unfold Jin.token
  rw [ifn (by rw [hk];rintro ⟨h,_⟩;cases h),ifn (by rw [hk];rintro ⟨h,_⟩;cases h),ifn (by rw [hk];rintro (⟨h,_⟩ | ⟨h,_⟩) <;> cases h),ifp ⟨hk,hn⟩])
 obtain ⟨pv,sv,hb,a,c,hm,rfl,hs,HI0⟩:=hi.opened;have HI:=hhh (HI0 p.depth 4 p.e p.maps _ hm hs);have HT:=hhh (fun o=>((Own.aA.refl hw).aD o).put 25 (.int .i64 4) _ rfl);have c24:=fun o=>((Own.aA.refl hw).aD o).has.cell b _ _ mcs 24 _ rfl
 have c25:=fun o=>((Own.aA.refl hw).aD o).has.cell b _ _ mcs 25 _ rfl
 have f25:=fun o=>((Own.aA.refl hw).aD o).has.free b _ _ mcs 25
 have hlt:=hw.cL;have hne:¬ b=w.heap.size:=by omega
 have hne':¬ w.heap.size=b:=by omega
 obtain ⟨k,tx,ng,mg⟩:=t;simp only at hk HP;subst hk;generalize p.token _=PV at HP |-;clear hi hw hs HI0 hlt;simp only [Tok.val];obtain ⟨TX,hTX⟩:∃ TX:ByteArray,TX=⟨tx.toArray⟩:=⟨_,rfl⟩;rw [<- hTX] at HP |-;clear hTX;rcases hn with hn | hn
 all_goals
  rw [hn] at c25;clear hn;go_enter func120,ntmps120;go_wp2;go_ret2;rw [HP.o];exact ⟨_,rfl,HI.o,HT.o _⟩
theorem aEf (hi : p.Is b h) (hw : Own.Has w h) (t : Tok) (hk : t.kind = 44) (hn : p.next = 5) (L : List Bool) (m : Bool) (hl : p.maps = L ++ [m]) (hL : L.length ≤ 16) :
  Calls prog 120 #[.pointer (some ⟨b,0,none⟩),t.val] w (fI (p.token t) b h w):=by
 have HP:=hhh (show p.token t=(⟨p.l,p.depth,p.maps,if m then 3 else 0,p.e⟩,none) by
  unfold Jin.token;rw [ifn (by rw [hk];rintro ⟨h,_⟩;cases h),ifp ⟨hk,hn⟩,hl]
  simp)
 obtain ⟨pv,sv,hb,a,c,hm,rfl,hs,HI0⟩:=hi.opened;have HI:=hhh (fun n=>HI0 p.depth n p.e p.maps _ hm hs);rw [show p.maps.length=L.length + 1 by rw [hl];simp] at hs hw HI |-;have hs2:=hs;rw [hl,List.map_append,List.map_cons,List.map_nil] at hs2;obtain ⟨mb,off,c',cl,e1,rfl,hcl,hlc,hcm,-⟩:=hs2.last;rw [List.length_map] at e1 hcl hlc;rw [e1] at hw HI |-;have HT:=hhh (fun o=>((Own.aA.refl hw).aD o));have c24:=fun o=>(HT.o o).has.cell b _ _ mcs 24 _ rfl
 have c25:=fun o=>(HT.o o).has.cell b _ _ mcs 25 _ rfl
 have f25:=fun o=>(HT.o o).has.free b _ _ mcs 25
 have HT1:=hhh (fun o=>(HT.o o).put 25 (.int .i64 0) _ rfl);have HT2:=hhh (fun o=>(HT1.o o).put 25 (.int .i64 3) _ rfl);have cm:=fun o=>(HT1.o o).has.cell mb _ _ (mcm _ (List.mem_append_right _ msr)) _ _ hcl
 rw [hn] at c25;have d24:=fun o=>(HT1.o o).has.cell b _ _ mcs 24 _ rfl
 have d25:=fun o=>(HT1.o o).has.cell b _ _ mcs 25 _ rfl
 have g25:=fun o=>(HT1.o o).has.free b _ _ mcs 25
 have hlt:=hw.cL;have hne:¬ b=w.heap.size:=by omega
 have hne':¬ w.heap.size=b:=by omega
 generalize L.length=K at c24 cm hlc hL HI HT1 HT2 d24 HT hw;have hk1':(((K + 1:Nat):Int)) - 1=(K:Int):=by omega
 obtain ⟨k,tx,ng,mg⟩:=t;simp only at hk HP;subst hk;generalize p.token _=PV at HP |-;clear hi hs hs2 HI0 hlt hn hl e1 hcl hw HT;simp only [Tok.val]
 cases m
 ·go_enter func120,ntmps120
  go_wp2;go_ret2;rw [HP.o];exact ⟨_,rfl,HI.o 0,HT1.o _⟩
 ·go_enter func120,ntmps120
  go_wp2;go_ret2;rw [HP.o];exact ⟨_,rfl,HI.o 3,HT2.o _⟩
theorem aFf (hi : p.Is b h) (hw : Own.Has w h) (t : Tok) (L : List Bool) (m : Bool) (hl : p.maps = L ++ [m]) (hL : L.length ≤ 16) (hk : (m = false ∧ t.kind = 93 ∧ (p.next = 1 ∨ p.next = 5)) ∨ (m = true ∧ t.kind = 125 ∧ (p.next = 2 ∨ p.next = 5))) :
  Calls prog 120 #[.pointer (some ⟨b,0,none⟩),t.val] w (fI (p.token t) b h w):=by
 have HP:=hhh (show p.token t=(⟨p.l,p.depth,L,behind L,p.e⟩,some .close) by
  unfold Jin.token;rcases hk with ⟨rfl,hk,hn⟩ | ⟨rfl,hk,hn⟩
  ·rw [ifn (by rw [hk];rintro ⟨h,_⟩;cases h),ifn (by rw [hk];rintro ⟨h,_⟩;cases h),ifp (.inl ⟨hk,by rw [hl];simp,hn⟩),hl]
   simp
  ·rw [ifn (by rw [hk];rintro ⟨h,_⟩;cases h),ifn (by rw [hk];rintro ⟨h,_⟩;cases h),ifp (.inr ⟨hk,by rw [hl];simp,hn⟩),hl]
   simp)
 obtain ⟨pv,sv,hb,a,c,hm,rfl,hs,HI0⟩:=hi.opened;rw [show p.maps.length=L.length + 1 by rw [hl];simp] at hs hw |-;have hs2:=hs;rw [hl,List.map_append,List.map_cons,List.map_nil] at hs2;obtain ⟨mb,off,c',cl,e1,rfl,hcl,hlc,hcm,hs3⟩:=hs2.last;rw [List.length_map] at e1 hcl hlc hs3;rw [e1] at hw |-;have HT:=hhh (fun o=>((Own.aA.refl hw).aD o));have c24:=fun o=>(HT.o o).has.cell b _ _ mcs 24 _ rfl
 have c25:=fun o=>(HT.o o).has.cell b _ _ mcs 25 _ rfl
 have f24:=fun o=>(HT.o o).has.free b _ _ mcs 24
 have cm:=fun o=>(HT.o o).has.cell mb _ _ (mcm _ (List.mem_append_right _ msr)) _ _ hcl
 have HI:=hhh (HI0 p.depth p.next p.e L _ _ hs3);have HT1:=hhh (fun o=>(HT.o o).put 24 (.slice (some ⟨mb,off,none⟩) L.length c') _ rfl);have HB:=hhh (fun o=>hJ HI.o (HT1.o o).has);have hlt:=hw.cL;have hne:¬ b=w.heap.size:=by omega
 have hne':¬ w.heap.size=b:=by omega
 generalize hK:L.length=K at c24 cm hlc hL HT1 hw HI HB HT;have HKe:=hhh hK;have hk1':(((K + 1:Nat):Int)) - 1=(K:Int):=by omega
 obtain ⟨k,tx,ng,mg⟩:=t;simp only at hk HP;generalize p.token _=PV at HP |-;clear hi hs hs2 hs3 HI0 hlt e1 hcl HT hK;simp only [Tok.val];rcases hk with ⟨rfl,rfl,hn⟩ | ⟨rfl,rfl,hn⟩
 all_goals
  clear hl;rcases hn with hn | hn
  all_goals
   rw [hn] at c25;clear hn;go_enter func120,ntmps120;go_wp2_with (fail);refine (HB.o _).mono ?_;rintro e w1 ⟨rfl,h1,i1,t1⟩;go_wp2;go_ret2;rw [HP.o];exact ⟨h1,rfl,i1,(HT1.o _).trans t1⟩
theorem dP (hi : p.Is b h) (hw : Own.Has w h) (hf : p.Fits) (t : Tok) :
  Calls prog 127 #[.pointer (some ⟨b,0,none⟩),t.val] w (fI (p.value t) b h w):=by
 by_cases h1:t.kind=91 \/ t.kind=123
 ·by_cases hd:p.maps.length=p.depth
  ·exact aB4 hi hw t h1 hd
  ·exact aA9 hi hw hf t h1 hd
 by_cases h2:t.kind=115
 ·exact gC hi hw t _ (.inl ⟨h2,rfl⟩)
 by_cases h3:t.kind=110
 ·exact gC hi hw t _ (.inr (.inl ⟨h3,rfl⟩))
 by_cases h4:t.kind=116
 ·exact gC hi hw t _ (.inr (.inr (.inl ⟨h4,rfl⟩)))
 by_cases h5:t.kind=102
 ·exact gC hi hw t _ (.inr (.inr (.inr (.inl ⟨h5,rfl⟩))))
 by_cases h6:t.kind=48
 ·exact gC hi hw t _ (.inr (.inr (.inr (.inr ⟨h6,rfl⟩))))
 have hx:∀ c:UInt8,t.kind ≠ c -> t.kind.toNat ≠ c.toNat:=fun c h e=>h (UInt8.toNat_inj.1 e)
 exact aEs hi hw t (hx 91 fun e=>h1 (.inl e)) (hx 123 fun e=>h1 (.inr e)) (hx 115 h2) (hx 110 h3) (hx 116 h4) (hx 102 h5) (hx 48 h6)
end
end Pip
end
section
open Go.RowKit
open Json (Part)
namespace Pip
def Jin.Left (p:Jin) (t:Tok):Prop :=
 ¬(t.kind=58 /\ p.next=4) /\ ¬(t.kind=44 /\ p.next=5) /\
 ¬((t.kind=93 /\ p.maps.getLast? = some false /\ (p.next=1 \/ p.next=5)) \/ (t.kind=125 /\ p.maps.getLast? = some true /\ (p.next=2 \/ p.next=5))) /\ ¬(t.kind=115 /\ (p.next=3 \/ p.next=2))
theorem Jin.Left.token {p:Jin} {t:Tok} (h:p.Left t):p.token t=if p.next ≠ 0 /\ p.next ≠ 1 then (⟨p.l,p.depth,p.maps,p.next,2⟩,none) else p.value t:=by
 unfold Jin.token;rw [ifn h.1,ifn h.2.1,ifn h.2.2.1,ifn h.2.2.2]
section
variable {p:Jin} {b:Nat} {h:Own.Heap} {w:World}
def Takes (p:Jin) (b:Nat) (h:Own.Heap) (w:World) (t:Tok):Prop:=Calls prog 120 #[.pointer (some ⟨b,0,none⟩),t.val] w (fI (p.token t) b h w)
theorem tok_58 (hi:p.Is b h) (hw:Own.Has w h) (t:Tok) (hL:p.Left t) (hf:p.Fits) (hk:t.kind.toNat=58):Takes p b h w t:=by
 unfold Takes;have HPt:=hL.token;have HV:=hhh (fun o=>dP hi ((Own.aA.refl hw).aD o).has hf t);have t58:=yb t.kind 58 (by omega);have t44:=nb t.kind 44 (by omega);have t93:=nb t.kind 93 (by omega);have t125:=nb t.kind 125 (by omega);have t115:=nb t.kind 115 (by omega);have q4:((p.next:Int) == 4)=false:=by rw [bfn];exact fun e=>hL.1 ⟨UInt8.toNat_inj.1 hk,by omega⟩
 obtain ⟨pv,sv,hb,a,c,hmm,rfl,hs,HI0⟩:=hi.opened;have HI:=hhh (HI0 p.depth p.next 2 p.maps _ _ hs);have HT:=hhh (fun o=>((Own.aA.refl hw).aD o));have HT1:=hhh (fun o=>(HT.o o).put 26 (.int .i64 2) _ rfl);have c24:=fun o=>(HT.o o).has.cell b _ _ mcs 24 _ rfl
 have c25:=fun o=>(HT.o o).has.cell b _ _ mcs 25 _ rfl
 have c26:=fun o=>(HT.o o).has.cell b _ _ mcs 26 _ rfl
 have f26:=fun o=>(HT.o o).has.free b _ _ mcs 26
 have hlt:=hw.cL;have hne:¬ b=w.heap.size:=by omega
 have hne':¬ w.heap.size=b:=by omega
 obtain ⟨k,tx,ng,mg⟩:=t;simp only at t58 t44 t93 t125 t115;generalize p.token _=PV at HPt |-;generalize p.value _=PW at HPt HV;clear hi hw hs HI0 hlt hk hL hf;by_cases hn:p.next ≠ 0 /\ p.next ≠ 1
 ·have HP:=hhh (HPt.trans (ifp hn))
  have qa:((p.next:Int) != 0)=true:=by rw [bne_iff_ne];omega
  have qb:((p.next:Int) != 1)=true:=by rw [bne_iff_ne];omega
  clear hn HV HPt;simp only [Tok.val];go_enter func120,ntmps120;go_wp2;go_ret2;rw [HP.o];exact ⟨_,rfl,HI.o,HT1.o _⟩
 ·have HP:=hhh (HPt.trans (ifn hn))
  simp only [Tok.val] at HV |-;rcases (show p.next=0 \/ p.next=1 by omega) with hn | hn
  all_goals
   rw [hn] at c25 q4;clear hn HPt HI HT1 c26 f26;go_enter func120,ntmps120;go_wp2_with (fail);refine (HV.o _).mono ?_;rintro e w1 ⟨h1,rfl,i1,t1⟩;go_wp2;go_ret2;rw [HP.o];exact ⟨h1,rfl,i1,(HT.o _).trans t1⟩
theorem tok_44 (hi:p.Is b h) (hw:Own.Has w h) (t:Tok) (hL:p.Left t) (hf:p.Fits) (hk:t.kind.toNat=44):Takes p b h w t:=by
 unfold Takes;have HPt:=hL.token;have HV:=hhh (fun o=>dP hi ((Own.aA.refl hw).aD o).has hf t);have t58:=nb t.kind 58 (by omega);have t44:=yb t.kind 44 (by omega);have t93:=nb t.kind 93 (by omega);have t125:=nb t.kind 125 (by omega);have t115:=nb t.kind 115 (by omega);have q5:((p.next:Int) == 5)=false:=by rw [bfn];exact fun e=>hL.2.1 ⟨UInt8.toNat_inj.1 hk,by omega⟩
 obtain ⟨pv,sv,hb,a,c,hmm,rfl,hs,HI0⟩:=hi.opened;have HI:=hhh (HI0 p.depth p.next 2 p.maps _ _ hs);have HT:=hhh (fun o=>((Own.aA.refl hw).aD o));have HT1:=hhh (fun o=>(HT.o o).put 26 (.int .i64 2) _ rfl);have c24:=fun o=>(HT.o o).has.cell b _ _ mcs 24 _ rfl
 have c25:=fun o=>(HT.o o).has.cell b _ _ mcs 25 _ rfl
 have c26:=fun o=>(HT.o o).has.cell b _ _ mcs 26 _ rfl
 have f26:=fun o=>(HT.o o).has.free b _ _ mcs 26
 have hlt:=hw.cL;have hne:¬ b=w.heap.size:=by omega
 have hne':¬ w.heap.size=b:=by omega
 obtain ⟨k,tx,ng,mg⟩:=t;simp only at t58 t44 t93 t125 t115;generalize p.token _=PV at HPt |-;generalize p.value _=PW at HPt HV;clear hi hw hs HI0 hlt hk hL hf;by_cases hn:p.next ≠ 0 /\ p.next ≠ 1
 ·have HP:=hhh (HPt.trans (ifp hn))
  have qa:((p.next:Int) != 0)=true:=by rw [bne_iff_ne];omega
  have qb:((p.next:Int) != 1)=true:=by rw [bne_iff_ne];omega
  clear hn HV HPt;simp only [Tok.val];go_enter func120,ntmps120;go_wp2;go_ret2;rw [HP.o];exact ⟨_,rfl,HI.o,HT1.o _⟩
 ·have HP:=hhh (HPt.trans (ifn hn))
  simp only [Tok.val] at HV |-;rcases (show p.next=0 \/ p.next=1 by omega) with hn | hn
  all_goals
   rw [hn] at c25 q5;clear hn HPt HI HT1 c26 f26;go_enter func120,ntmps120;go_wp2_with (fail);refine (HV.o _).mono ?_;rintro e w1 ⟨h1,rfl,i1,t1⟩;go_wp2;go_ret2;rw [HP.o];exact ⟨h1,rfl,i1,(HT.o _).trans t1⟩
theorem tok_93_nil (hi:p.Is b h) (hw:Own.Has w h) (t:Tok) (hL:p.Left t) (hf:p.Fits) (hk:t.kind.toNat=93) (hm:p.maps=[]):Takes p b h w t:=by
 unfold Takes;have HPt:=hL.token;have HV:=hhh (fun o=>dP hi ((Own.aA.refl hw).aD o).has hf t);have t58:=nb t.kind 58 (by omega);have t44:=nb t.kind 44 (by omega);have t93:=yb t.kind 93 (by omega);have t125:=nb t.kind 125 (by omega);have t115:=nb t.kind 115 (by omega);obtain ⟨pv,sv,hb,a,c,hmm,rfl,hs,HI0⟩:=hi.opened;rw [show p.maps.length=0 by rw [hm];rfl] at hs hw HV |-;have HI:=hhh (HI0 p.depth p.next 2 p.maps _ _ hs);have HT:=hhh (fun o=>((Own.aA.refl hw).aD o));have HT1:=hhh (fun o=>(HT.o o).put 26 (.int .i64 2) _ rfl);have c24:=fun o=>(HT.o o).has.cell b _ _ mcs 24 _ rfl
 have c25:=fun o=>(HT.o o).has.cell b _ _ mcs 25 _ rfl
 have c26:=fun o=>(HT.o o).has.cell b _ _ mcs 26 _ rfl
 have f26:=fun o=>(HT.o o).has.free b _ _ mcs 26
 have hlt:=hw.cL;have hne:¬ b=w.heap.size:=by omega
 have hne':¬ w.heap.size=b:=by omega
 obtain ⟨k,tx,ng,mg⟩:=t;simp only at t58 t44 t93 t125 t115;generalize p.token _=PV at HPt |-;generalize p.value _=PW at HPt HV;clear hi hw hs HI0 hlt hk hL hf hm;by_cases hn:p.next ≠ 0 /\ p.next ≠ 1
 ·have HP:=hhh (HPt.trans (ifp hn))
  have qa:((p.next:Int) != 0)=true:=by rw [bne_iff_ne];omega
  have qb:((p.next:Int) != 1)=true:=by rw [bne_iff_ne];omega
  clear hn HV HPt;simp only [Tok.val];go_enter func120,ntmps120;go_wp2;go_ret2;rw [HP.o];exact ⟨_,rfl,HI.o,HT1.o _⟩
 ·have HP:=hhh (HPt.trans (ifn hn))
  simp only [Tok.val] at HV |-;rcases (show p.next=0 \/ p.next=1 by omega) with hn | hn
  all_goals
   rw [hn] at c25;clear hn HPt HI HT1 c26 f26;go_enter func120,ntmps120;go_wp2_with (fail);refine (HV.o _).mono ?_;rintro e w1 ⟨h1,rfl,i1,t1⟩;go_wp2;go_ret2;rw [HP.o];exact ⟨h1,rfl,i1,(HT.o _).trans t1⟩
theorem tok_93_true (hi:p.Is b h) (hw:Own.Has w h) (t:Tok) (hL:p.Left t) (hf:p.Fits) (hk:t.kind.toNat=93) (L:List Bool) (h16:L.length <= 16) (hm:p.maps=L ++ [true]):Takes p b h w t:=by
 unfold Takes;have HPt:=hL.token;have HV:=hhh (fun o=>dP hi ((Own.aA.refl hw).aD o).has hf t);have t58:=nb t.kind 58 (by omega);have t44:=nb t.kind 44 (by omega);have t93:=yb t.kind 93 (by omega);have t125:=nb t.kind 125 (by omega);have t115:=nb t.kind 115 (by omega);obtain ⟨pv,sv,hb,a,c,hmm,rfl,hs,HI0⟩:=hi.opened;rw [show p.maps.length=L.length + 1 by rw [hm];simp] at hs hw HV |-;have hs2:=hs;rw [hm,List.map_append,List.map_cons,List.map_nil] at hs2;obtain ⟨mb,off,c',cl,e1,rfl,hcl,hlc,hcm,-⟩:=hs2.last;rw [List.length_map] at e1 hcl hlc;rw [e1] at hw hs HV |-;have HI:=hhh (HI0 p.depth p.next 2 p.maps _ _ hs);have HT:=hhh (fun o=>((Own.aA.refl hw).aD o));have HT1:=hhh (fun o=>(HT.o o).put 26 (.int .i64 2) _ rfl);have c24:=fun o=>(HT.o o).has.cell b _ _ mcs 24 _ rfl
 have c25:=fun o=>(HT.o o).has.cell b _ _ mcs 25 _ rfl
 have c26:=fun o=>(HT.o o).has.cell b _ _ mcs 26 _ rfl
 have f26:=fun o=>(HT.o o).has.free b _ _ mcs 26
 have cm:=fun o=>(HT.o o).has.cell mb _ _ (mcm _ (List.mem_append_right _ msr)) _ _ hcl
 have hlt:=hw.cL;have hne:¬ b=w.heap.size:=by omega
 have hne':¬ w.heap.size=b:=by omega
 generalize hK:L.length=K at c24 cm hlc HT h16 HT1 HI HV |-;have hk1':(((K + 1:Nat):Int)) - 1=(K:Int):=by omega
 obtain ⟨k,tx,ng,mg⟩:=t;simp only at t58 t44 t93 t125 t115;generalize p.token _=PV at HPt |-;generalize p.value _=PW at HPt HV;clear hi hw hs HI0 hlt hk hL hf hs2 hm e1 hcl hK;by_cases hn:p.next ≠ 0 /\ p.next ≠ 1
 ·have HP:=hhh (HPt.trans (ifp hn))
  have qa:((p.next:Int) != 0)=true:=by rw [bne_iff_ne];omega
  have qb:((p.next:Int) != 1)=true:=by rw [bne_iff_ne];omega
  clear hn HV HPt;simp only [Tok.val];go_enter func120,ntmps120;go_wp2;go_ret2;rw [HP.o];exact ⟨_,rfl,HI.o,HT1.o _⟩
 ·have HP:=hhh (HPt.trans (ifn hn))
  simp only [Tok.val] at HV |-;rcases (show p.next=0 \/ p.next=1 by omega) with hn | hn
  all_goals
   rw [hn] at c25;clear hn HPt HI HT1 c26 f26;go_enter func120,ntmps120;go_wp2_with (fail);refine (HV.o _).mono ?_;rintro e w1 ⟨h1,rfl,i1,t1⟩;go_wp2;go_ret2;rw [HP.o];exact ⟨h1,rfl,i1,(HT.o _).trans t1⟩
theorem tok_93_false (hi:p.Is b h) (hw:Own.Has w h) (t:Tok) (hL:p.Left t) (hf:p.Fits) (hk:t.kind.toNat=93) (L:List Bool) (h16:L.length <= 16) (hm:p.maps=L ++ [false]):Takes p b h w t:=by
 unfold Takes;have HPt:=hL.token;have HV:=hhh (fun o=>dP hi ((Own.aA.refl hw).aD o).has hf t);have t58:=nb t.kind 58 (by omega);have t44:=nb t.kind 44 (by omega);have t93:=yb t.kind 93 (by omega);have t125:=nb t.kind 125 (by omega);have t115:=nb t.kind 115 (by omega);have q1:((p.next:Int) == 1)=false:=by rw [bfn];exact fun e=>hL.2.2.1 (.inl ⟨UInt8.toNat_inj.1 hk,by rw [hm];simp,by omega⟩)
 have q5:((p.next:Int) == 5)=false:=by rw [bfn];exact fun e=>hL.2.2.1 (.inl ⟨UInt8.toNat_inj.1 hk,by rw [hm];simp,by omega⟩)
 have h01:p.next ≠ 1:=fun e=>hL.2.2.1 (.inl ⟨UInt8.toNat_inj.1 hk,by rw [hm];simp,.inl e⟩)
 obtain ⟨pv,sv,hb,a,c,hmm,rfl,hs,HI0⟩:=hi.opened;rw [show p.maps.length=L.length + 1 by rw [hm];simp] at hs hw HV |-;have hs2:=hs;rw [hm,List.map_append,List.map_cons,List.map_nil] at hs2;obtain ⟨mb,off,c',cl,e1,rfl,hcl,hlc,hcm,-⟩:=hs2.last;rw [List.length_map] at e1 hcl hlc;rw [e1] at hw hs HV |-;have HI:=hhh (HI0 p.depth p.next 2 p.maps _ _ hs);have HT:=hhh (fun o=>((Own.aA.refl hw).aD o));have HT1:=hhh (fun o=>(HT.o o).put 26 (.int .i64 2) _ rfl);have c24:=fun o=>(HT.o o).has.cell b _ _ mcs 24 _ rfl
 have c25:=fun o=>(HT.o o).has.cell b _ _ mcs 25 _ rfl
 have c26:=fun o=>(HT.o o).has.cell b _ _ mcs 26 _ rfl
 have f26:=fun o=>(HT.o o).has.free b _ _ mcs 26
 have cm:=fun o=>(HT.o o).has.cell mb _ _ (mcm _ (List.mem_append_right _ msr)) _ _ hcl
 have hlt:=hw.cL;have hne:¬ b=w.heap.size:=by omega
 have hne':¬ w.heap.size=b:=by omega
 generalize hK:L.length=K at c24 cm hlc HT h16 HT1 HI HV |-;have hk1':(((K + 1:Nat):Int)) - 1=(K:Int):=by omega
 obtain ⟨k,tx,ng,mg⟩:=t;simp only at t58 t44 t93 t125 t115;generalize p.token _=PV at HPt |-;generalize p.value _=PW at HPt HV;clear hi hw hs HI0 hlt hk hL hf hs2 hm e1 hcl hK;by_cases hn:p.next ≠ 0 /\ p.next ≠ 1
 ·have HP:=hhh (HPt.trans (ifp hn))
  have qa:((p.next:Int) != 0)=true:=by rw [bne_iff_ne];omega
  have qb:((p.next:Int) != 1)=true:=by rw [bne_iff_ne];omega
  clear hn HV HPt h01;simp only [Tok.val];go_enter func120,ntmps120;go_wp2;go_ret2;rw [HP.o];exact ⟨_,rfl,HI.o,HT1.o _⟩
 ·have HP:=hhh (HPt.trans (ifn hn))
  simp only [Tok.val] at HV |-;have hn:p.next=0:=by omega
  clear h01
  all_goals
   rw [hn] at c25 q1 q5;clear hn HPt HI HT1 c26 f26;go_enter func120,ntmps120;go_wp2_with (fail);refine (HV.o _).mono ?_;rintro e w1 ⟨h1,rfl,i1,t1⟩;go_wp2;go_ret2;rw [HP.o];exact ⟨h1,rfl,i1,(HT.o _).trans t1⟩
theorem tok_125_nil (hi:p.Is b h) (hw:Own.Has w h) (t:Tok) (hL:p.Left t) (hf:p.Fits) (hk:t.kind.toNat=125) (hm:p.maps=[]):Takes p b h w t:=by
 unfold Takes;have HPt:=hL.token;have HV:=hhh (fun o=>dP hi ((Own.aA.refl hw).aD o).has hf t);have t58:=nb t.kind 58 (by omega);have t44:=nb t.kind 44 (by omega);have t93:=nb t.kind 93 (by omega);have t125:=yb t.kind 125 (by omega);have t115:=nb t.kind 115 (by omega);obtain ⟨pv,sv,hb,a,c,hmm,rfl,hs,HI0⟩:=hi.opened;rw [show p.maps.length=0 by rw [hm];rfl] at hs hw HV |-;have HI:=hhh (HI0 p.depth p.next 2 p.maps _ _ hs);have HT:=hhh (fun o=>((Own.aA.refl hw).aD o));have HT1:=hhh (fun o=>(HT.o o).put 26 (.int .i64 2) _ rfl);have c24:=fun o=>(HT.o o).has.cell b _ _ mcs 24 _ rfl
 have c25:=fun o=>(HT.o o).has.cell b _ _ mcs 25 _ rfl
 have c26:=fun o=>(HT.o o).has.cell b _ _ mcs 26 _ rfl
 have f26:=fun o=>(HT.o o).has.free b _ _ mcs 26
 have hlt:=hw.cL;have hne:¬ b=w.heap.size:=by omega
 have hne':¬ w.heap.size=b:=by omega
 obtain ⟨k,tx,ng,mg⟩:=t;simp only at t58 t44 t93 t125 t115;generalize p.token _=PV at HPt |-;generalize p.value _=PW at HPt HV;clear hi hw hs HI0 hlt hk hL hf hm;by_cases hn:p.next ≠ 0 /\ p.next ≠ 1
 ·have HP:=hhh (HPt.trans (ifp hn))
  have qa:((p.next:Int) != 0)=true:=by rw [bne_iff_ne];omega
  have qb:((p.next:Int) != 1)=true:=by rw [bne_iff_ne];omega
  clear hn HV HPt;simp only [Tok.val];go_enter func120,ntmps120;go_wp2;go_ret2;rw [HP.o];exact ⟨_,rfl,HI.o,HT1.o _⟩
 ·have HP:=hhh (HPt.trans (ifn hn))
  simp only [Tok.val] at HV |-;rcases (show p.next=0 \/ p.next=1 by omega) with hn | hn
  all_goals
   rw [hn] at c25;clear hn HPt HI HT1 c26 f26;go_enter func120,ntmps120;go_wp2_with (fail);refine (HV.o _).mono ?_;rintro e w1 ⟨h1,rfl,i1,t1⟩;go_wp2;go_ret2;rw [HP.o];exact ⟨h1,rfl,i1,(HT.o _).trans t1⟩
theorem tok_125_false (hi:p.Is b h) (hw:Own.Has w h) (t:Tok) (hL:p.Left t) (hf:p.Fits) (hk:t.kind.toNat=125) (L:List Bool) (h16:L.length <= 16) (hm:p.maps=L ++ [false]):Takes p b h w t:=by
 unfold Takes;have HPt:=hL.token;have HV:=hhh (fun o=>dP hi ((Own.aA.refl hw).aD o).has hf t);have t58:=nb t.kind 58 (by omega);have t44:=nb t.kind 44 (by omega);have t93:=nb t.kind 93 (by omega);have t125:=yb t.kind 125 (by omega);have t115:=nb t.kind 115 (by omega);obtain ⟨pv,sv,hb,a,c,hmm,rfl,hs,HI0⟩:=hi.opened;rw [show p.maps.length=L.length + 1 by rw [hm];simp] at hs hw HV |-;have hs2:=hs;rw [hm,List.map_append,List.map_cons,List.map_nil] at hs2;obtain ⟨mb,off,c',cl,e1,rfl,hcl,hlc,hcm,-⟩:=hs2.last;rw [List.length_map] at e1 hcl hlc;rw [e1] at hw hs HV |-;have HI:=hhh (HI0 p.depth p.next 2 p.maps _ _ hs);have HT:=hhh (fun o=>((Own.aA.refl hw).aD o));have HT1:=hhh (fun o=>(HT.o o).put 26 (.int .i64 2) _ rfl);have c24:=fun o=>(HT.o o).has.cell b _ _ mcs 24 _ rfl
 have c25:=fun o=>(HT.o o).has.cell b _ _ mcs 25 _ rfl
 have c26:=fun o=>(HT.o o).has.cell b _ _ mcs 26 _ rfl
 have f26:=fun o=>(HT.o o).has.free b _ _ mcs 26
 have cm:=fun o=>(HT.o o).has.cell mb _ _ (mcm _ (List.mem_append_right _ msr)) _ _ hcl
 have hlt:=hw.cL;have hne:¬ b=w.heap.size:=by omega
 have hne':¬ w.heap.size=b:=by omega
 generalize hK:L.length=K at c24 cm hlc HT h16 HT1 HI HV |-;have hk1':(((K + 1:Nat):Int)) - 1=(K:Int):=by omega
 obtain ⟨k,tx,ng,mg⟩:=t;simp only at t58 t44 t93 t125 t115;generalize p.token _=PV at HPt |-;generalize p.value _=PW at HPt HV;clear hi hw hs HI0 hlt hk hL hf hs2 hm e1 hcl hK;by_cases hn:p.next ≠ 0 /\ p.next ≠ 1
 ·have HP:=hhh (HPt.trans (ifp hn))
  have qa:((p.next:Int) != 0)=true:=by rw [bne_iff_ne];omega
  have qb:((p.next:Int) != 1)=true:=by rw [bne_iff_ne];omega
  clear hn HV HPt;simp only [Tok.val];go_enter func120,ntmps120;go_wp2;go_ret2;rw [HP.o];exact ⟨_,rfl,HI.o,HT1.o _⟩
 ·have HP:=hhh (HPt.trans (ifn hn))
  simp only [Tok.val] at HV |-;rcases (show p.next=0 \/ p.next=1 by omega) with hn | hn
  all_goals
   rw [hn] at c25;clear hn HPt HI HT1 c26 f26;go_enter func120,ntmps120;go_wp2_with (fail);refine (HV.o _).mono ?_;rintro e w1 ⟨h1,rfl,i1,t1⟩;go_wp2;go_ret2;rw [HP.o];exact ⟨h1,rfl,i1,(HT.o _).trans t1⟩
theorem tok_125_true (hi:p.Is b h) (hw:Own.Has w h) (t:Tok) (hL:p.Left t) (hf:p.Fits) (hk:t.kind.toNat=125) (L:List Bool) (h16:L.length <= 16) (hm:p.maps=L ++ [true]):Takes p b h w t:=by
 unfold Takes;have HPt:=hL.token;have HV:=hhh (fun o=>dP hi ((Own.aA.refl hw).aD o).has hf t);have t58:=nb t.kind 58 (by omega);have t44:=nb t.kind 44 (by omega);have t93:=nb t.kind 93 (by omega);have t125:=yb t.kind 125 (by omega);have t115:=nb t.kind 115 (by omega);have q2:((p.next:Int) == 2)=false:=by rw [bfn];exact fun e=>hL.2.2.1 (.inr ⟨UInt8.toNat_inj.1 hk,by rw [hm];simp,by omega⟩)
 have q5:((p.next:Int) == 5)=false:=by rw [bfn];exact fun e=>hL.2.2.1 (.inr ⟨UInt8.toNat_inj.1 hk,by rw [hm];simp,by omega⟩)
 obtain ⟨pv,sv,hb,a,c,hmm,rfl,hs,HI0⟩:=hi.opened;rw [show p.maps.length=L.length + 1 by rw [hm];simp] at hs hw HV |-;have hs2:=hs;rw [hm,List.map_append,List.map_cons,List.map_nil] at hs2;obtain ⟨mb,off,c',cl,e1,rfl,hcl,hlc,hcm,-⟩:=hs2.last;rw [List.length_map] at e1 hcl hlc;rw [e1] at hw hs HV |-;have HI:=hhh (HI0 p.depth p.next 2 p.maps _ _ hs);have HT:=hhh (fun o=>((Own.aA.refl hw).aD o));have HT1:=hhh (fun o=>(HT.o o).put 26 (.int .i64 2) _ rfl);have c24:=fun o=>(HT.o o).has.cell b _ _ mcs 24 _ rfl
 have c25:=fun o=>(HT.o o).has.cell b _ _ mcs 25 _ rfl
 have c26:=fun o=>(HT.o o).has.cell b _ _ mcs 26 _ rfl
 have f26:=fun o=>(HT.o o).has.free b _ _ mcs 26
 have cm:=fun o=>(HT.o o).has.cell mb _ _ (mcm _ (List.mem_append_right _ msr)) _ _ hcl
 have hlt:=hw.cL;have hne:¬ b=w.heap.size:=by omega
 have hne':¬ w.heap.size=b:=by omega
 generalize hK:L.length=K at c24 cm hlc HT h16 HT1 HI HV |-;have hk1':(((K + 1:Nat):Int)) - 1=(K:Int):=by omega
 obtain ⟨k,tx,ng,mg⟩:=t;simp only at t58 t44 t93 t125 t115;generalize p.token _=PV at HPt |-;generalize p.value _=PW at HPt HV;clear hi hw hs HI0 hlt hk hL hf hs2 hm e1 hcl hK;by_cases hn:p.next ≠ 0 /\ p.next ≠ 1
 ·have HP:=hhh (HPt.trans (ifp hn))
  have qa:((p.next:Int) != 0)=true:=by rw [bne_iff_ne];omega
  have qb:((p.next:Int) != 1)=true:=by rw [bne_iff_ne];omega
  clear hn HV HPt;simp only [Tok.val];go_enter func120,ntmps120;go_wp2;go_ret2;rw [HP.o];exact ⟨_,rfl,HI.o,HT1.o _⟩
 ·have HP:=hhh (HPt.trans (ifn hn))
  simp only [Tok.val] at HV |-;rcases (show p.next=0 \/ p.next=1 by omega) with hn | hn
  all_goals
   rw [hn] at c25 q2 q5;clear hn HPt HI HT1 c26 f26;go_enter func120,ntmps120;go_wp2_with (fail);refine (HV.o _).mono ?_;rintro e w1 ⟨h1,rfl,i1,t1⟩;go_wp2;go_ret2;rw [HP.o];exact ⟨h1,rfl,i1,(HT.o _).trans t1⟩
theorem tok_115 (hi:p.Is b h) (hw:Own.Has w h) (t:Tok) (hL:p.Left t) (hf:p.Fits) (hk:t.kind.toNat=115):Takes p b h w t:=by
 unfold Takes;have HPt:=hL.token;have HV:=hhh (fun o=>dP hi ((Own.aA.refl hw).aD o).has hf t);have t58:=nb t.kind 58 (by omega);have t44:=nb t.kind 44 (by omega);have t93:=nb t.kind 93 (by omega);have t125:=nb t.kind 125 (by omega);have t115:=yb t.kind 115 (by omega);have q3:((p.next:Int) == 3)=false:=by rw [bfn];exact fun e=>hL.2.2.2 ⟨UInt8.toNat_inj.1 hk,by omega⟩
 have q2:((p.next:Int) == 2)=false:=by rw [bfn];exact fun e=>hL.2.2.2 ⟨UInt8.toNat_inj.1 hk,by omega⟩
 obtain ⟨pv,sv,hb,a,c,hmm,rfl,hs,HI0⟩:=hi.opened;have HI:=hhh (HI0 p.depth p.next 2 p.maps _ _ hs);have HT:=hhh (fun o=>((Own.aA.refl hw).aD o));have HT1:=hhh (fun o=>(HT.o o).put 26 (.int .i64 2) _ rfl);have c24:=fun o=>(HT.o o).has.cell b _ _ mcs 24 _ rfl
 have c25:=fun o=>(HT.o o).has.cell b _ _ mcs 25 _ rfl
 have c26:=fun o=>(HT.o o).has.cell b _ _ mcs 26 _ rfl
 have f26:=fun o=>(HT.o o).has.free b _ _ mcs 26
 have hlt:=hw.cL;have hne:¬ b=w.heap.size:=by omega
 have hne':¬ w.heap.size=b:=by omega
 obtain ⟨k,tx,ng,mg⟩:=t;simp only at t58 t44 t93 t125 t115;generalize p.token _=PV at HPt |-;generalize p.value _=PW at HPt HV;clear hi hw hs HI0 hlt hk hL hf;by_cases hn:p.next ≠ 0 /\ p.next ≠ 1
 ·have HP:=hhh (HPt.trans (ifp hn))
  have qa:((p.next:Int) != 0)=true:=by rw [bne_iff_ne];omega
  have qb:((p.next:Int) != 1)=true:=by rw [bne_iff_ne];omega
  clear hn HV HPt;simp only [Tok.val];go_enter func120,ntmps120;go_wp2;go_ret2;rw [HP.o];exact ⟨_,rfl,HI.o,HT1.o _⟩
 ·have HP:=hhh (HPt.trans (ifn hn))
  simp only [Tok.val] at HV |-;rcases (show p.next=0 \/ p.next=1 by omega) with hn | hn
  all_goals
   rw [hn] at c25 q3 q2;clear hn HPt HI HT1 c26 f26;go_enter func120,ntmps120;go_wp2_with (fail);refine (HV.o _).mono ?_;rintro e w1 ⟨h1,rfl,i1,t1⟩;go_wp2;go_ret2;rw [HP.o];exact ⟨h1,rfl,i1,(HT.o _).trans t1⟩
theorem tok_0 (hi:p.Is b h) (hw:Own.Has w h) (t:Tok) (hL:p.Left t) (hf:p.Fits) (hk:t.kind.toNat ≠ 58 /\ t.kind.toNat ≠ 44 /\ t.kind.toNat ≠ 93 /\ t.kind.toNat ≠ 125 /\ t.kind.toNat ≠ 115):Takes p b h w t:=by
 unfold Takes;have HPt:=hL.token;have HV:=hhh (fun o=>dP hi ((Own.aA.refl hw).aD o).has hf t);have t58:=nb t.kind 58 (by omega);have t44:=nb t.kind 44 (by omega);have t93:=nb t.kind 93 (by omega);have t125:=nb t.kind 125 (by omega);have t115:=nb t.kind 115 (by omega);obtain ⟨pv,sv,hb,a,c,hmm,rfl,hs,HI0⟩:=hi.opened;have HI:=hhh (HI0 p.depth p.next 2 p.maps _ _ hs);have HT:=hhh (fun o=>((Own.aA.refl hw).aD o));have HT1:=hhh (fun o=>(HT.o o).put 26 (.int .i64 2) _ rfl);have c24:=fun o=>(HT.o o).has.cell b _ _ mcs 24 _ rfl
 have c25:=fun o=>(HT.o o).has.cell b _ _ mcs 25 _ rfl
 have c26:=fun o=>(HT.o o).has.cell b _ _ mcs 26 _ rfl
 have f26:=fun o=>(HT.o o).has.free b _ _ mcs 26
 have hlt:=hw.cL;have hne:¬ b=w.heap.size:=by omega
 have hne':¬ w.heap.size=b:=by omega
 obtain ⟨k,tx,ng,mg⟩:=t;simp only at t58 t44 t93 t125 t115;generalize p.token _=PV at HPt |-;generalize p.value _=PW at HPt HV;clear hi hw hs HI0 hlt hk hL hf;by_cases hn:p.next ≠ 0 /\ p.next ≠ 1
 ·have HP:=hhh (HPt.trans (ifp hn))
  have qa:((p.next:Int) != 0)=true:=by rw [bne_iff_ne];omega
  have qb:((p.next:Int) != 1)=true:=by rw [bne_iff_ne];omega
  clear hn HV HPt;simp only [Tok.val];go_enter func120,ntmps120;go_wp2;go_ret2;rw [HP.o];exact ⟨_,rfl,HI.o,HT1.o _⟩
 ·have HP:=hhh (HPt.trans (ifn hn))
  simp only [Tok.val] at HV |-;rcases (show p.next=0 \/ p.next=1 by omega) with hn | hn
  all_goals
   rw [hn] at c25;clear hn HPt HI HT1 c26 f26;go_enter func120,ntmps120;go_wp2_with (fail);refine (HV.o _).mono ?_;rintro e w1 ⟨h1,rfl,i1,t1⟩;go_wp2;go_ret2;rw [HP.o];exact ⟨h1,rfl,i1,(HT.o _).trans t1⟩
theorem aDv (hi : p.Is b h) (hw : Own.Has w h) (hf : p.Fits) (t : Tok) :
  Calls prog 120 #[.pointer (some ⟨b,0,none⟩),t.val] w (fI (p.token t) b h w):=by
 have h16:p.maps.length <= 16:=Nat.le_trans hf.maps hf.depth;by_cases hA:t.kind=58 /\ p.next=4
 ·exact aEr hi hw t hA.1 hA.2
 by_cases hB:t.kind=44 /\ p.next=5
 ·obtain ⟨L,m,hl⟩:∃ L m,p.maps=L ++ [m]:=by
   rcases List.eq_nil_or_concat p.maps with h | ⟨L,m,h⟩
   ·exact absurd h (hf.more hB.2)
   ·exact ⟨L,m,by rw [h,List.concat_eq_append]⟩
  exact aEf hi hw t hB.1 hB.2 L m hl (by rw [hl] at h16;simp at h16;omega)
 by_cases hC:(t.kind=93 /\ p.maps.getLast? = some false /\ (p.next=1 \/ p.next=5)) \/ (t.kind=125 /\ p.maps.getLast? = some true /\ (p.next=2 \/ p.next=5))
 ·rcases List.eq_nil_or_concat p.maps with h | ⟨L,m,h⟩
  ·rw [h] at hC;rcases hC with ⟨_,h2,_⟩ | ⟨_,h2,_⟩ <;> cases h2
  ·rw [List.concat_eq_append] at h
   refine aFf hi hw t L m h (by rw [h] at h16;simp at h16;omega) ?_;rw [h,List.getLast?_append] at hC;rcases hC with ⟨h1,h2,h3⟩ | ⟨h1,h2,h3⟩
   ·exact .inl ⟨by simpa using h2,h1,h3⟩
   ·exact .inr ⟨by simpa using h2,h1,h3⟩
 by_cases hD:t.kind=115 /\ (p.next=3 \/ p.next=2)
 ·exact aJx hi hw t hD.1 hD.2
 have hL:p.Left t:=⟨hA,hB,hC,hD⟩;have hms:p.maps=[] \/ (∃ L,p.maps=L ++ [false]) \/ (∃ L,p.maps=L ++ [true]):=by
  rcases List.eq_nil_or_concat p.maps with h | ⟨L,m,h⟩
  ·exact .inl h
  ·rw [List.concat_eq_append] at h
   cases m
   ·exact .inr (.inl ⟨L,h⟩)
   ·exact .inr (.inr ⟨L,h⟩)
 by_cases h58:t.kind.toNat=58
 ·exact tok_58 hi hw t hL hf h58
 by_cases h44:t.kind.toNat=44
 ·exact tok_44 hi hw t hL hf h44
 by_cases h93:t.kind.toNat=93
 ·rcases hms with hm | ⟨L,hm⟩ | ⟨L,hm⟩
  ·exact tok_93_nil hi hw t hL hf h93 hm
  ·exact tok_93_false hi hw t hL hf h93 L (by rw [hm] at h16;simp at h16;omega) hm
  ·exact tok_93_true hi hw t hL hf h93 L (by rw [hm] at h16;simp at h16;omega) hm
 by_cases h125:t.kind.toNat=125
 ·rcases hms with hm | ⟨L,hm⟩ | ⟨L,hm⟩
  ·exact tok_125_nil hi hw t hL hf h125 hm
  ·exact tok_125_false hi hw t hL hf h125 L (by rw [hm] at h16;simp at h16;omega) hm
  ·exact tok_125_true hi hw t hL hf h125 L (by rw [hm] at h16;simp at h16;omega) hm
 by_cases h115:t.kind.toNat=115
 ·exact tok_115 hi hw t hL hf h115
 exact tok_0 hi hw t hL hf ⟨h58,h44,h93,h125,h115⟩
end
end Pip
end
section
open Go.RowKit
open Json (Part)
namespace Pip
def aF (l:List Part):List Value:=l.map Part.val
def mH (o:Jin × List Part × Nat) (b:Nat) (h:Own.Heap) (w:World) (e:Ending) (w':World):Prop :=
 ∃ v hv h',e = .returned (.tuple #[v,.int .i64 (o.2.2:Int)]) /\ Own.Slc 20 (aF o.2.1) v hv /\ o.1.Is b h' /\ Own.aA h (hv ++ h') w w'
theorem infoAny:(prog.info? 20).map (fun i=>(i.zero,i.size,i.bytes))=some (some .nilIface,1,16):=by kernel_rfl
theorem vR (p:Part):p.val.oneCell'=true:=by
 cases p with
 | other b=>cases b <;> rfl
 | _=>rfl
theorem eR (p:Part):p.val = .nilIface \/ ∃ T x,p.val = .iface T x:=by
 cases p with
 | other b=>cases b <;> first | exact .inl rfl | exact .inr ⟨_,_,rfl⟩
 | _=>first | exact .inl rfl | exact .inr ⟨_,_,rfl⟩
theorem Jin.Is.eG {p:Jin} {b:Nat} {h:Own.Heap} {w:World} (hi:p.Is b h) (hw:Own.Has w h):w.cell? ⟨b,26,none⟩=some (.int .i64 (p.e:Int)) /\ w.frozen? ⟨b,26,none⟩=false:=by
 obtain ⟨pv,sv,hb,a,c,hm,rfl,hs,HI0⟩:=hi.opened;exact ⟨hw.cell b _ _ mcs 26 _ rfl,hw.free b _ _ mcs 26⟩
theorem Jin.Is.aDg {p:Jin} {b:Nat} {h:Own.Heap} {w:World} (hi:p.Is b h) (hw:Own.Has w h):w.cell? ⟨b,25,none⟩=some (.int .i64 (p.next:Int)):=by
 obtain ⟨pv,sv,hb,a,c,hm,rfl,hs,HI0⟩:=hi.opened;exact hw.cell b _ _ mcs 25 _ rfl
theorem Jin.Is.aC3 {p : Jin} {b : Nat} {h a0 : Own.Heap} {w u : World} (hi : p.Is b h) (t : Own.aA a0 h u w) (e : Nat) :
  ∃ h',(Jin.mk p.l p.depth p.maps p.next e).Is b h' /\ Own.aA a0 h' u (w.setCell ⟨b,26,none⟩ (.int .i64 (e:Int))):=by
 obtain ⟨pv,sv,hb,a,c,hm,rfl,hs,HI0⟩:=hi.opened;exact ⟨_,HI0 p.depth p.next e p.maps _ hm hs,t.put 26 _ _ rfl⟩
def Jin.ahead (p:Jin):List Tok -> Jin × List Part
 | []=>(p,[])
 | t :: l=>(((p.token t).1.ahead l).1,(p.token t).2.toList ++ ((p.token t).1.ahead l).2)
theorem Jin.nV (p : Jin) (l : List Tok) (e : Nat) (k : Nat) (hk : ∀ j, j < k → (p.ahead (l.take (j + 1))).1.e = 0) (hkl : k ≤ l.length) :
  p.parts l e=(((p.ahead (l.take k)).1.parts (l.drop k) e).1,(p.ahead (l.take k)).2 ++ ((p.ahead (l.take k)).1.parts (l.drop k) e).2.1,((p.ahead (l.take k)).1.parts (l.drop k) e).2.2):=by
 induction k generalizing p l with
 | zero=>simp [Jin.ahead]
 | succ k ih =>
  cases l with
  | nil=>simp at hkl
  | cons t l =>
   have h0:(p.token t).1.e=0:=by
    have:=hk 0 (by omega);simpa [Jin.ahead] using this
   have:=ih (p.token t).1 l (fun j hj=>by
    have:=hk (j + 1) (by omega)
    simpa [Jin.ahead] using this) (by simp at hkl;omega)
   rw [Jin.parts,ifn (by simp [h0]),this];simp [Jin.ahead]
theorem Jin.qU {p:Jin} (h:p.Fits):∀ l:List Tok,(p.ahead l).1.Fits
 | []=>h
 | t :: l=>Jin.qU (h.token t) l
theorem Jin.fM (p:Jin) (l:List Tok) (t:Tok):p.ahead (l ++ [t])=(((p.ahead l).1.token t).1,(p.ahead l).2 ++ ((p.ahead l).1.token t).2.toList):=by
 induction l generalizing p with
 | nil=>simp [Jin.ahead]
 | cons x l ih=>simp [Jin.ahead,ih]
theorem Jin.dE (p:Jin) (l:List Tok):(p.ahead l).2.length <= l.length:=by
 induction l generalizing p with
 | nil=>simp [Jin.ahead]
 | cons t l ih =>
  have:=ih (p.token t).1;have h2:(p.token t).2.toList.length <= 1:=by cases (p.token t).2 <;> simp
  simp only [Jin.ahead,lla,List.length_cons];omega
theorem wL (l : List Tok) (j : Nat) (h : j < l.length) (i : Nat) (v : Value) (hi : [Value.int .u8 (l[j].kind.toNat : Int), .string ⟨l[j].text.toArray⟩, .bool l[j].neg, .int .u64 (l[j].mag : Int)][i]? = some v) :
  (cR l)[j * 4 + i]? = some v:=by
 have hi4:i < 4:=(List.getElem?_eq_some_iff.1 hi).1
 induction l generalizing j with
 | nil=>simp at h
 | cons t l ih =>
  have e:cR (t :: l)=[Value.int .u8 (t.kind.toNat:Int),.string ⟨t.text.toArray⟩,.bool t.neg,.int .u64 (t.mag:Int)] ++ cR l:=rfl;rw [e]
  cases j with
  | zero=>rw [List.getElem?_append_left (by simp;omega)];simpa using hi
  | succ j =>
   rw [List.getElem?_append_right (by simp;omega)];have:=ih j (by simpa using h) (by simpa using hi);rw [<- this];congr 1;simp;omega
section
variable {p:Jin} {b:Nat} {h:Own.Heap} {w:World}
def aHr (o:Jin × List Part × Nat) (b:Nat) (h:Own.Heap) (w:World) (e:Ending) (w':World):Prop :=
 ∃ v hv h',e = .returned (.tuple #[v,.int .i64 (o.2.2:Int)]) /\ Own.Slc 20 (aF o.2.1) v hv /\ o.1.Is b h' /\ Own.aA h (hv ++ h') w w'
theorem aE9 (hi : p.Is b h) (hf : p.Fits) (he : p.e = 0) (ts : List Tok) (v : Value) (hv : Own.Heap) (hs : Own.Slk 4 210 ts.length (cR ts) v hv) (hw : Own.Has w (hv ++ h)) (e : Nat) (hn : ts.length ≤ 1000) :
  Calls prog 108 #[.pointer (some ⟨b,0,none⟩),v,.int .i64 (e:Int)] w (aHr (p.parts ts e) b (hv ++ h) w):=by
 obtain ⟨i0,hi0,e0⟩:=Option.map_eq_some_iff.1 infoAny;simp only [Prod.mk.injEq] at e0;obtain ⟨hz,hsz,hby⟩:=e0;obtain ⟨a,c,rfl⟩:=hs.len;have HI:=hhh hi;have HW:=hhh hw;have HFt:=hhh hf;have HE0:=hhh he;have HS:=hhh hs;have Hi:=hhh (ai hi0 (ai hz (ai hsz hby)));obtain ⟨N,hN⟩:∃ N,N=ts.length:=⟨_,rfl⟩;rw [<- hN] at hn |-;have HN:=hhh hN;clear hi hf he hs hw hi0 hz hsz hby hN;go_enter func108,ntmps108;go_wp2
 go_loopw [8, 15] (fun o i wr => ∃ (j : Nat) (ho hj : Own.Heap), i = .int .i64 j ∧ j ≤ N ∧ Hid (∀ k, k < j → (p.ahead (ts.take (k + 1))).1.e = 0) ∧
   Own.Slc 20 (aF (p.ahead (ts.take j)).2) o ho /\ (p.ahead (ts.take j)).1.Is b hj /\ Own.aA (hv ++ h) (ho ++ (hv ++ hj)) w wr) (fun _ i _=>N - (intOf i).toNat)
 case atStart=>exact ⟨0,[],h,rfl,Nat.zero_le _,hhh fun k hk=>absurd hk (Nat.not_lt_zero _),.bare none rfl,HI.o,Own.aA.refl HW.o⟩
 case round =>
  obtain ⟨j,ho,hj,rfl,hjN,hz,hso,hij,ht⟩:=hrel;have HSo:=hhh hso;have HIj:=hhh hij;have HT:=hhh ht;clear hso hij ht;by_cases hlt:j < N
  ·have hjl:j < ts.length:=by have:=HN.o;omega
   have hltI:(j:Int) < (N:Int):=by omega
   obtain ⟨tb,m,spare,e1,e2,hsp,hm⟩:=HS.o.at_ (by omega);injection e1 with e1a e1b e1c
   subst e1a;clear e1b e1c;have hcell:=fun i u (hu:[Value.int .u8 (ts[j].kind.toNat:Int),.string ⟨ts[j].text.toArray⟩,.bool ts[j].neg,.int .u64 (ts[j].mag:Int)][i]? = some u) =>
    HT.o.has.right.left.cell tb 210 (cR ts ++ spare) (by rw [e2];exact List.mem_singleton.2 rfl) (j * 4 + i) u (by
     have h4:=wL ts j hjl i u hu
     rw [List.getElem?_append_left (List.getElem?_eq_some_iff.1 h4).1,h4])
   have k0:wr.cell? ⟨tb,j * 4,none⟩=some (Value.int .u8 (ts[j].kind.toNat:Int)):=hcell 0 _ rfl;have k1:=hcell 1 _ rfl;have k2:=hcell 2 _ rfl;have k3:=hcell 3 _ rfl;clear e2;have hsn:=hhh (show ts.take (j + 1)=ts.take j ++ [ts[j]] from List.take_succ_eq_append_getElem hjl);have HFj:=hhh (Jin.qU HFt.o (ts.take j));have HTk:=hhh (fun o=>aDv HIj.o (HT.o.aD o).has.right.right HFj.o ts[j]);have HSn:=hhh (show p.ahead (ts.take (j + 1))=(((p.ahead (ts.take j)).1.token ts[j]).1,(p.ahead (ts.take j)).2 ++ ((p.ahead (ts.take j)).1.token ts[j]).2.toList) by rw [hsn.o,Jin.fM]);have HLen:=hhh (Jin.dE p (ts.take j));generalize hA:p.ahead (ts.take j)=A at HIj HSo HFj HTk HSn HLen;obtain ⟨q,ps⟩:=A;have HA:=hhh hA;clear hA;simp only at HIj HSo HFj HTk HSn HLen;generalize hR:q.token ts[j]=R at HTk HSn;obtain ⟨q2,op⟩:=R;have HR:=hhh hR;clear hR;simp only at HTk HSn;go_wp2_with (fail);refine (HTk.o _).mono ?_;rintro e3 w3 ⟨h3,rfl,hi3,ht3⟩;have HI3:=hhh hi3;have T3:=hhh ((HT.o.aD _).trans ((ht3.behind (HT.o.aD _).has.right).behind (HT.o.aD _).has));obtain ⟨ce,cf⟩:=hi3.eG T3.o.has.right.right;clear hi3 ht3 k0 k1 k2 k3 hcell;by_cases hq:q2.e=0
   ·have hqI:(q2.e:Int)=0:=by omega
    rw [hqI] at ce
    cases op with
    | none =>
     go_wp2_with (fail);go_roundw
     case rel=>exact ⟨j + 1,ho,h3,by go_num,by omega,hhh fun k hk=>by
      by_cases hkj:k < j
      ·exact hz.out k hkj
      ·obtain rfl:k=j:=by omega
       rw [HSn.o];exact hq,by rw [HSn.o];simpa using HSo.o,by rw [HSn.o];exact HI3.o,T3.o⟩
     case measure=>simp [intOf];omega
    | some y =>
     have hps:ps.length <= 1000:=by have:=HLen.o;rw [List.length_take] at this;omega
     obtain ⟨oa,oc,ro⟩:=HSo.o.len;rw [show (aF ps).length=ps.length from List.length_map ..] at ro;subst ro;rcases eR y with hY | ⟨T,x,hY⟩
     all_goals
      rw [show told (some y)=y.val from rfl,hY];generalize hM:ps.length=M at hps HSo;have HM:=hhh hM;clear hM;go_wp2_with (at_builtin;go_loud (refine Own.aX rfl _ _ 129 rfl 20 i0 .nilIface 16 underlying129 Hi.o.1 Hi.o.2.1 Hi.o.2.2.1 Hi.o.2.2.2 rfl (.slice oa M oc) (aF ps) M (by rw [<- HM.o];exact List.length_map ..) ho (hv ++ h3) rfl HSo.o T3.o.has _ rfl rfl ?c1 ?c2 ?_))
      case c1=>simp only [maxLen];omega
      case c2=>omega
      intro ad' c' h' w' hs' ht';have S4:=hhh hs';have T4:=hhh (T3.o.trans ht');clear hs' ht';go_wp2;go_roundw
      case rel=>exact ⟨j + 1,h',h3,by go_num,by omega,hhh fun k hk=>by
       by_cases hkj:k < j
       ·exact hz.out k hkj
       ·obtain rfl:k=j:=by omega
        rw [HSn.o];exact hq,by rw [HSn.o];simpa [aF,hY] using S4.o,by rw [HSn.o];exact HI3.o,T4.o⟩
      case measure=>simp [intOf];omega
   ·have hqI:((q2.e:Int) == 0)=false:=by rw [bfn];omega
    go_wp2_with (fail);go_quiet (fail);go_wp2;go_ret2;have HP:p.parts ts e=(q2,ps,q2.e):=by
     rw [Jin.nV p ts e j hz.out (by omega),HA.o,List.drop_eq_getElem_cons hjl];simp only [Jin.parts,HR.o];rw [ifp hq];simp
    rw [HP];exact ⟨_,ho,h3,rfl,HSo.o,HI3.o,((T3.o.perm (.refl _) (Own.aE _ (hv ++ (ho ++ h3)) fun x=>by simp only [List.count_append];omega)).forget).drewN _⟩
  ·have hge:(N:Int) <= (j:Int):=by omega
   obtain rfl:j=N:=by omega
   have HP:p.parts ts e=(Jin.mk (p.ahead ts).1.l (p.ahead ts).1.depth (p.ahead ts).1.maps (p.ahead ts).1.next e,(p.ahead ts).2,e):=by
    rw [Jin.nV p ts e ts.length (by have:=HN.o;rw [<- this];exact hz.out) (Nat.le_refl _)];simp [Jin.parts]
   have hta:ts.take j=ts:=by rw [HN.o];exact List.take_length
   rw [hta] at HSo HIj;have HP2:=hhh HP;obtain ⟨c26,f26⟩:=HIj.o.eG HT.o.has.right.right;obtain ⟨h',i',t'⟩:=HIj.o.aC3 (Own.aA.refl HT.o.has.right.right) e;have TE:=hhh (HT.o.trans ((t'.behind HT.o.has.right).behind HT.o.has));have IE:=hhh i';obtain ⟨oa,oc,ro⟩:=HSo.o.len;subst ro;clear t' i';go_wp2;go_ret2;rw [HP2.o];exact ⟨_,ho,h',rfl,HSo.o,IE.o,(TE.o.perm (.refl _) (Own.aE _ (hv ++ (ho ++ h')) fun x=>by simp only [List.count_append];omega)).forget⟩
end
end Pip
end
end Go.Proofs.YtcjflgmcjfcodaaGreat
