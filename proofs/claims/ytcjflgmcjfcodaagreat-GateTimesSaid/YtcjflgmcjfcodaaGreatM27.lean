/- Texts of the walk, joined. -/
import Derived.Test.YtcjflgmcjfcodaaGreatM15
import Derived.Test.YtcjflgmcjfcodaaGreatM22
import Derived.Test.YtcjflgmcjfcodaaGreatM24
import Derived.Test.YtcjflgmcjfcodaaGreatM26
import Derived.Deep.DeepCutAuto
import Derived.Deep.OwnRows
import Derived.Deep.RegionLaw
import Derived.StillTailTactics
set_option maxRecDepth 100000
set_option maxHeartbeats 8000000
namespace Go.Proofs.Tryz end Go.Proofs.Tryz
namespace Go.Proofs.YtcjflgmcjfcodaaGreat
open Go.Proofs.Tryz
section
open Go.RowKit
namespace Pip
namespace Cb
def aW (l:List Crt):List Value:=l.flatMap fun c=>[.bool c.pairs,.int .i64 c.count,.int .i64 (c.parts:Int)]
theorem aU (l:List Crt):(aW l).length=l.length * 3:=by
 induction l with
 | nil=>rfl
 | cons c l ih=>simp only [aW,List.flatMap_cons,lla,List.length_cons,List.length_nil] at *;omega
theorem dB (a b:List Crt):aW (a ++ b)=aW a ++ aW b:=by simp [aW]
def Is (W:Cw) (wb:Nat) (h:Own.Heap):Prop :=
 ∃ lv hl,h=Own.row wb 149 [lv,.bool W.done] :: hl /\ Own.Slk 3 301 W.opened.length (aW W.opened) lv hl
theorem Is.zero (wb:Nat):Is Cw.new wb [Own.row wb 149 [.slice none 0 0,.bool false]]:=⟨_,_,rfl,.bare none rfl rfl⟩
theorem Is.last {W : Cw} {wb : Nat} {h : Own.Heap} (hi : Is W wb h) (L : List Crt) (c : Crt) (hl : W.opened = L ++ [c]) :
  ∃ b m spare,h=[Own.row wb 149 [.slice (some ⟨b,0,none⟩) (L.length + 1) (L.length + 1 + m),.bool W.done],Own.row b 301 (aW L ++ ([.bool c.pairs,.int .i64 c.count,.int .i64 (c.parts:Int)] ++ spare))] /\
   spare.length=m * 3 /\ L.length + 1 + m <= maxLen:=by
 obtain ⟨lv,hl',rfl,hs⟩:=hi;rw [hl] at hs;obtain ⟨b,m,spare,rfl,rfl,h1,h2⟩:=hs.at_ (by simp);refine ⟨b,m,spare,?_,h1,by simpa using h2⟩;rw [dB];simp [aW]
theorem Is.of {wb b m : Nat} (L : List Crt) (spare : List Value) (done : Bool) (hs : spare.length = m * 3) (hm : L.length + m ≤ maxLen) :
  Is (Cw.mk L done) wb [Own.row wb 149 [.slice (some ⟨b,0,none⟩) L.length (L.length + m),.bool done],Own.row b 301 (aW L ++ spare)] :=
 ⟨_,_,rfl,.row b m spare (aU L) hs hm⟩
theorem Is.head {W:Cw} {wb:Nat} {h:Own.Heap} (hi:Is W wb h):∃ a c hl,h=Own.row wb 149 [.slice a W.opened.length c,.bool W.done] :: hl /\ Own.Slk 3 301 W.opened.length (aW W.opened) (.slice a W.opened.length c) hl:=by
 obtain ⟨lv,hl,rfl,hs⟩:=hi;obtain ⟨a,c,rfl⟩:=hs.len;exact ⟨a,c,hl,rfl,hs⟩
theorem bY (y : Bool) (c : Int) (k : Nat) (w : World) :
  Calls prog 240 #[.agg #[.bool y,.int .i64 c,.int .i64 (k:Int)]] w fun e w'=>e = .returned (.bool (Crt.mk y c k).aK) /\ Below w.heap.size w w':=by
 have B0:=hhh (fun o=>(Below.refl w.heap.size w).alloc (Nat.le_refl _) o);have e1:=Json.aLp k;have e2:=Json.aHw k;have hb:(Crt.mk y c k).aK=(y && decide (k % 2=1)):=rfl;have hlt:=Nat.mod_lt k (show 0 < 2 by omega);generalize k % 2=r at e1 e2 hb hlt;have HB:=hhh hb;clear hb
 cases y
 ·go_enter func240,ntmps240
  go_wp2;go_ret;exact ⟨by rw [HB.o];rfl,B0.o _⟩
 ·obtain rfl | rfl:r=0 \/ r=1:=by omega
  all_goals
   go_enter func240,ntmps240;go_wp2;go_ret;exact ⟨by rw [HB.o];rfl,B0.o _⟩
theorem aLe (k:Nat):((k:Int)).tdiv 2=((k / 2:Nat):Int):=by rw [Int.tdiv_eq_ediv_of_nonneg (by omega)];omega
theorem fZ (y : Bool) (c : Int) (k : Nat) (hk : k ≤ 1000000) (w : World) :
  Calls prog 239 #[.agg #[.bool y,.int .i64 c,.int .i64 (k:Int)]] w fun e w'=>e = .returned (.bool (Crt.mk y c k).full) /\ Below w.heap.size w w':=by
 have B0:=hhh (fun o=>(Below.refl w.heap.size w).alloc (Nat.le_refl _) o);have HC:=hhh (fun u=>bY y c k u);have hb:(Crt.mk y c k).full=if y then !(Crt.mk y c k).aK && ((k / 2:Nat):Int) == c else (k:Int) == c:=rfl
 have e1:=aLe k;have hq:k / 2 <= 1000000:=by omega
 cases y
 ·have HB:=hhh hb
  clear hb e1 hq HC;go_enter func239,ntmps239;go_wp2;go_ret;exact ⟨by rw [HB.o];rfl,B0.o _⟩
 ·generalize (Crt.mk true c k).aK=bt at HC hb
  generalize k / 2=q at e1 hq hb;have e3:IntKind.i64.wrap (q:Int)=(q:Int):=by rw [IntKind.wrap_i64];omega
  have HB:=hhh hb;clear hb;have HT:=hhh (Own.aA.aP (Own.aA.refl (Own.Has.nil w)) w.heap.size rfl 301 [.bool true,.int .i64 c,.int .i64 (k:Int)]);have bel:∀ {W:World} {o:Obj},Below (w.alloc o).heap.size (w.alloc o) W -> Below w.heap.size w W:=fun {W o} b=>(B0.o o).trans (b.mono (by rw [Json.size_alloc];omega))
  cases bt
  all_goals
   go_enter func239,ntmps239;go_wp2_with (fail);refine (HC.o _).mono ?_;rintro e w1 ⟨rfl,b1⟩;have t1:=Own.aA.aJ HT.o.has b1;have d1:=t1.has.cell w.heap.size _ _ mcs 1 _ rfl;have d2:=t1.has.cell w.heap.size _ _ mcs 2 _ rfl;have bb:=hhh (bel b1);clear t1 b1;go_wp2;go_ret;exact ⟨by rw [HB.o];rfl,bb.o⟩
end Cb
end Pip
end
section
open Go.RowKit
namespace Pip
namespace Pk
def aW (l:List Crt):List Value:=l.flatMap fun c=>[.bool c.pairs,.int .i64 c.count,.int .i64 (c.parts:Int)]
theorem aU (l:List Crt):(aW l).length=l.length * 3:=by
 induction l with
 | nil=>rfl
 | cons c l ih=>simp only [aW,List.flatMap_cons,lla,List.length_cons,List.length_nil] at *;omega
theorem dB (a b:List Crt):aW (a ++ b)=aW a ++ aW b:=by simp [aW]
def Is (W:Cw) (wb:Nat) (h:Own.Heap):Prop :=
 ∃ lv hl,h=Own.row wb 153 [lv,.bool W.done] :: hl /\ Own.Slk 3 304 W.opened.length (aW W.opened) lv hl
theorem Is.zero (wb:Nat):Is Cw.new wb [Own.row wb 153 [.slice none 0 0,.bool false]]:=⟨_,_,rfl,.bare none rfl rfl⟩
theorem Is.last {W : Cw} {wb : Nat} {h : Own.Heap} (hi : Is W wb h) (L : List Crt) (c : Crt) (hl : W.opened = L ++ [c]) :
  ∃ b m spare,h=[Own.row wb 153 [.slice (some ⟨b,0,none⟩) (L.length + 1) (L.length + 1 + m),.bool W.done],Own.row b 304 (aW L ++ ([.bool c.pairs,.int .i64 c.count,.int .i64 (c.parts:Int)] ++ spare))] /\
   spare.length=m * 3 /\ L.length + 1 + m <= maxLen:=by
 obtain ⟨lv,hl',rfl,hs⟩:=hi;rw [hl] at hs;obtain ⟨b,m,spare,rfl,rfl,h1,h2⟩:=hs.at_ (by simp);refine ⟨b,m,spare,?_,h1,by simpa using h2⟩;rw [dB];simp [aW]
theorem Is.of {wb b m : Nat} (L : List Crt) (spare : List Value) (done : Bool) (hs : spare.length = m * 3) (hm : L.length + m ≤ maxLen) :
  Is (Cw.mk L done) wb [Own.row wb 153 [.slice (some ⟨b,0,none⟩) L.length (L.length + m),.bool done],Own.row b 304 (aW L ++ spare)] :=
 ⟨_,_,rfl,.row b m spare (aU L) hs hm⟩
theorem Is.head {W:Cw} {wb:Nat} {h:Own.Heap} (hi:Is W wb h):∃ a c hl,h=Own.row wb 153 [.slice a W.opened.length c,.bool W.done] :: hl /\ Own.Slk 3 304 W.opened.length (aW W.opened) (.slice a W.opened.length c) hl:=by
 obtain ⟨lv,hl,rfl,hs⟩:=hi;obtain ⟨a,c,rfl⟩:=hs.len;exact ⟨a,c,hl,rfl,hs⟩
theorem bY (y : Bool) (c : Int) (k : Nat) (w : World) :
  Calls prog 246 #[.agg #[.bool y,.int .i64 c,.int .i64 (k:Int)]] w fun e w'=>e = .returned (.bool (Crt.mk y c k).aK) /\ Below w.heap.size w w':=by
 have B0:=hhh (fun o=>(Below.refl w.heap.size w).alloc (Nat.le_refl _) o);have e1:=Json.aLp k;have e2:=Json.aHw k;have hb:(Crt.mk y c k).aK=(y && decide (k % 2=1)):=rfl;have hlt:=Nat.mod_lt k (show 0 < 2 by omega);generalize k % 2=r at e1 e2 hb hlt;have HB:=hhh hb;clear hb
 cases y
 ·go_enter func246,ntmps246
  go_wp2;go_ret;exact ⟨by rw [HB.o];rfl,B0.o _⟩
 ·obtain rfl | rfl:r=0 \/ r=1:=by omega
  all_goals
   go_enter func246,ntmps246;go_wp2;go_ret;exact ⟨by rw [HB.o];rfl,B0.o _⟩
theorem aLe (k:Nat):((k:Int)).tdiv 2=((k / 2:Nat):Int):=by rw [Int.tdiv_eq_ediv_of_nonneg (by omega)];omega
theorem fZ (y : Bool) (c : Int) (k : Nat) (hk : k ≤ 1000000) (w : World) :
  Calls prog 245 #[.agg #[.bool y,.int .i64 c,.int .i64 (k:Int)]] w fun e w'=>e = .returned (.bool (Crt.mk y c k).full) /\ Below w.heap.size w w':=by
 have B0:=hhh (fun o=>(Below.refl w.heap.size w).alloc (Nat.le_refl _) o);have HC:=hhh (fun u=>bY y c k u);have hb:(Crt.mk y c k).full=if y then !(Crt.mk y c k).aK && ((k / 2:Nat):Int) == c else (k:Int) == c:=rfl
 have e1:=aLe k;have hq:k / 2 <= 1000000:=by omega
 cases y
 ·have HB:=hhh hb
  clear hb e1 hq HC;go_enter func245,ntmps245;go_wp2;go_ret;exact ⟨by rw [HB.o];rfl,B0.o _⟩
 ·generalize (Crt.mk true c k).aK=bt at HC hb
  generalize k / 2=q at e1 hq hb;have e3:IntKind.i64.wrap (q:Int)=(q:Int):=by rw [IntKind.wrap_i64];omega
  have HB:=hhh hb;clear hb;have HT:=hhh (Own.aA.aP (Own.aA.refl (Own.Has.nil w)) w.heap.size rfl 304 [.bool true,.int .i64 c,.int .i64 (k:Int)]);have bel:∀ {W:World} {o:Obj},Below (w.alloc o).heap.size (w.alloc o) W -> Below w.heap.size w W:=fun {W o} b=>(B0.o o).trans (b.mono (by rw [Json.size_alloc];omega))
  cases bt
  all_goals
   go_enter func245,ntmps245;go_wp2_with (fail);refine (HC.o _).mono ?_;rintro e w1 ⟨rfl,b1⟩;have t1:=Own.aA.aJ HT.o.has b1;have d1:=t1.has.cell w.heap.size _ _ mcs 1 _ rfl;have d2:=t1.has.cell w.heap.size _ _ mcs 2 _ rfl;have bb:=hhh (bel b1);clear t1 b1;go_wp2;go_ret;exact ⟨by rw [HB.o];rfl,bb.o⟩
end Pk
end Pip
end
section
open Go.RowKit
open Json (Part)
namespace Pip
namespace Pk
theorem step_end {W : Cw} {wb : Nat} {h : Own.Heap} {w : World} (hi : Is W wb h) (hw : Own.Has w h) (p : Part) (hp : p.may = false ∨ W.done = true) :
  Calls prog 244 #[.pointer (some ⟨wb,0,none⟩),p.val] w fun e w'=>e = .returned (.tuple #[.string ⟨#[]⟩,.int .i64 14]) /\ Own.aA h h w w':=by
 obtain ⟨V,hV⟩:∃ V,V=p.val:=⟨_,rfl⟩;obtain ⟨a,b,m,s,c,hc⟩:=Json.cB p V hV w;rw [<- hV];have hI:=hhh hi;have hW:=hhh hw;obtain ⟨lv,hl,rfl,hs⟩:=hi;clear hs hw;have HC:=hhh hc;clear hc hV;generalize p.may=y at HC hp;have HP:=hhh hp;clear hp;go_enter func244,ntmps244;go_wp2_with (fail);refine HC.o.mono ?_;rintro e W1 ⟨rfl,b1⟩;have t1:=Own.aA.aJ hW.o b1;have c1:=fun o=>(t1.aD o).has.cell wb _ _ mcs 1 _ rfl
 cases y
 ·go_wp2
  go_ret2;exact ⟨rfl,t1.aD _⟩
 ·have hd:W.done=true:=by rcases HP.o with h | h;cases h;exact h
  simp only [hd] at c1;go_wp2;go_ret2;exact ⟨rfl,t1.aD _⟩
end Pk
end Pip
end
section
open Go.RowKit
open Json (Part)
namespace Pip
namespace Cb
theorem jS (l:List UInt8) (s:ByteArray):(⟨l.toArray⟩:ByteArray) ++ s=⟨(l ++ bytesOf s).toArray⟩:=by
 have:s=⟨(bytesOf s).toArray⟩:=by
  apply ByteArray.ext;simp [bytesOf]
 conv=>lhs;rw [this]
 exact bF _ _
theorem aDm (k : Nat) (K : Int) (hK : (k : Int) = K) (hk : k < 8) (v : Nat) (hv : v < 18446744073709551616) (w : World) :
  Calls prog 242 #[.int .i64 K,.int .u64 (v:Int)] w fun e w'=>e = .returned (.string ⟨(put k v).toArray⟩) /\ Below w.heap.size w w':=by
 subst hK;exact jI k v hk hv w
theorem dR (p : Part) (hp : Fine p) (hgb : p.isBegin = false) (hgc : p.isClose = false) (w : World) :
  Calls prog 241 #[p.val] w fun e w'=>e = .returned (.string ⟨(cborPlain p).toArray⟩) /\ Below w.heap.size w w':=by
 have a1:=Json.asBool p;have a2:=Json.mR p;have a3:=Json.jA p;have a4:=Json.rW p;have B0:=hhh (fun o=>(Below.refl w.heap.size w).alloc (Nat.le_refl _) o);have bel:∀ (W:World) (o:Obj),Below (w.alloc o).heap.size (w.alloc o) W -> Below w.heap.size w W:=fun W o b=>(B0.o o).trans (b.mono (by rw [Json.size_alloc];omega))
 have BE:=hhh bel;clear bel;obtain ⟨V,hV⟩:∃ V,V=p.val:=⟨_,rfl⟩;rw [<- hV] at a1 a2 a3 a4 |-;have hsm:=hp.small;have htx:=hp.text;have hmay:=hp.may;clear hp hV
 cases p with
 | bool b =>
  clear hsm htx hmay hgb hgc;rw [show (Part.bool b).isBool=true from rfl,show (Part.bool b).inBool = .bool b from rfl] at a1
  cases b
  all_goals
   go_enter func241,ntmps241;go_wp2;go_ret;exact ⟨rfl,Below.refl _ _⟩
 | whole n m =>
  have hm:m < 18446744073709551616:=hsm;have HP0:=hhh (fun u=>aDm 0 0 rfl (by omega) m hm u);have HP1:=hhh (fun u=>aDm 1 1 rfl (by omega) m hm u);clear htx hsm hmay hgb hgc;rw [show (Part.whole n m).isBool=false from rfl,show (Part.whole n m).inBool = .bool false from rfl] at a1;rw [show (Part.whole n m).isWhole=true from rfl,show (Part.whole n m).inWhole = .agg #[.bool n,.int .u64 (m:Int)] from rfl] at a2
  cases n
  ·go_enter func241,ntmps241
   go_wp2_with (fail);refine (HP0.o _).mono ?_;rintro e w1 ⟨rfl,b1⟩;go_wp2;go_ret;exact ⟨rfl,BE.o _ _ b1⟩
  ·go_enter func241,ntmps241
   go_wp2_with (fail);refine (HP1.o _).mono ?_;rintro e w1 ⟨rfl,b1⟩;go_wp2;go_ret;exact ⟨rfl,BE.o _ _ b1⟩
 | word s =>
  have hs:s.size <= 200:=htx s (.inl rfl);have HP:=hhh (fun u=>aDm 3 3 rfl (by omega) s.size (by omega) u);have HC:=hhh (jS (put 3 s.size) s);have hz:(⟨(put 3 s.size).toArray⟩:ByteArray).size <= 9:=by
   rw [aL];unfold put;split
   ·simp [aS]
   ·rw [ifp (by omega)];simp [aS]
  generalize hP:(⟨(put 3 s.size).toArray⟩:ByteArray)=S1 at *
  clear hP;clear htx hsm hmay hgb hgc;rw [show (Part.word s).isBool=false from rfl,show (Part.word s).inBool = .bool false from rfl] at a1;rw [show (Part.word s).isWhole=false from rfl,show (Part.word s).inWhole = .agg #[.bool false,.int .u64 0] from rfl] at a2;rw [show (Part.word s).isWord=true from rfl,show (Part.word s).inWord = .string s from rfl] at a3;go_enter func241,ntmps241;go_wp2_with (fail);refine (HP.o _).mono ?_;rintro e w1 ⟨rfl,b1⟩;go_wp2;go_ret;exact ⟨Own.aZ HC.o,BE.o _ _ b1⟩
 | cW s =>
  have hs:s.size <= 200:=htx s (.inr rfl);have HP:=hhh (fun u=>aDm 2 2 rfl (by omega) s.size (by omega) u);have HC:=hhh (jS (put 2 s.size) s);have hz:(⟨(put 2 s.size).toArray⟩:ByteArray).size <= 9:=by
   rw [aL];unfold put;split
   ·simp [aS]
   ·rw [ifp (by omega)];simp [aS]
  generalize hP:(⟨(put 2 s.size).toArray⟩:ByteArray)=S1 at *
  clear hP;clear htx hsm hmay hgb hgc;rw [show (Part.cW s).isBool=false from rfl,show (Part.cW s).inBool = .bool false from rfl] at a1;rw [show (Part.cW s).isWhole=false from rfl,show (Part.cW s).inWhole = .agg #[.bool false,.int .u64 0] from rfl] at a2;rw [show (Part.cW s).isWord=false from rfl,show (Part.cW s).inWord = .string ⟨#[]⟩ from rfl] at a3;rw [show (Part.cW s).isBlob=true from rfl,show (Part.cW s).inBlob = .string s from rfl] at a4;go_enter func241,ntmps241;go_wp2_with (fail);refine (HP.o _).mono ?_;rintro e w1 ⟨rfl,b1⟩;go_wp2;go_ret;exact ⟨Own.aZ HC.o,BE.o _ _ b1⟩
 | null =>
  clear htx hsm hmay hgb hgc;rw [show Part.null.isBool=false from rfl,show Part.null.inBool = .bool false from rfl] at a1;rw [show Part.null.isWhole=false from rfl,show Part.null.inWhole = .agg #[.bool false,.int .u64 0] from rfl] at a2;rw [show Part.null.isWord=false from rfl,show Part.null.inWord = .string ⟨#[]⟩ from rfl] at a3;rw [show Part.null.isBlob=false from rfl,show Part.null.inBlob = .string ⟨#[]⟩ from rfl] at a4;go_enter func241,ntmps241;go_wp2;go_ret;exact ⟨rfl,B0.o _⟩
 | aG m c=>cases hgb
 | close=>cases hgc
 | other b=>cases hmay
end Cb
end Pip
end
section
open Go.RowKit
namespace Pip
namespace Cb
theorem kW (L:List Crt) (c:Crt) (d:Bool) (h:c.aK=true \/ (0 <= c.count /\ c.full=false)):(Cw.mk (L ++ [c]) d).cD=([],14,Cw.mk (L ++ [c]) d):=by
 simp only [Cw.cD,List.getLast?_append,List.getLast?_singleton,Option.some_or,ifp h]
theorem jB (L:List Crt) (c:Crt) (d:Bool) (h:¬ (c.aK=true \/ (0 <= c.count /\ c.full=false))):(Cw.mk (L ++ [c]) d).cD=(if c.count < 0 then [255] else [],0,Cw.mk L (decide (L.length=0))):=by
 simp only [Cw.cD,List.getLast?_append,List.getLast?_singleton,Option.some_or,ifn h];simp
theorem fS {W : Cw} {wb n : Nat} {h : Own.Heap} {w : World} (hi : Is W wb h) (hw : Own.Has w h) (hf : W.Fits n) (hn : n ≤ 100000) (hd : W.done = false) :
  Calls prog 238 #[.pointer (some ⟨wb,0,none⟩)] w fun e w'=>e = .returned (.tuple #[.string ⟨W.cD.1.toArray⟩,.int .i64 (W.cD.2.1:Int)]) /\
   ∃ h',Is W.cD.2.2 wb h' /\ Own.aA h h' w w':=by
 obtain ⟨l,d⟩:=W;simp only at hd;subst hd;rcases List.eq_nil_or_concat l with rfl | ⟨L,c,rfl⟩
 ·have hI:=hhh hi
  have hW:=hhh hw;obtain ⟨a,cc,hl,rfl,hs⟩:=hi.head;have c0:=hw.cell wb _ _ mcs 0 _ rfl;simp only [List.length_nil] at c0;clear hs hw hi;go_enter func238,ntmps238;go_wp2;go_ret2;exact ⟨rfl,_,hI.o,Own.aA.refl hW.o⟩
 ·rw [List.concat_eq_append] at *
  obtain ⟨b,m,spare,rfl,hsl,hm⟩:=hi.last L c rfl;obtain ⟨N,hN⟩:∃ N,N=L.length:=⟨_,rfl⟩;have hN1:N < 100000:=by have:=hf.deep;simp at this;omega
  have hc:c.parts <= 1000000:=by have:=hf.parts c (by simp);omega
  have hc0 : -1 <= c.count /\ c.count <= 1000000:=by have:=hf.parts c (by simp);omega
  have hW:=hhh hw
  have CF:=hhh (fun (u:World) (t:Own.aA [Own.row wb 149 [.slice (some ⟨b,0,none⟩) (L.length + 1) (L.length + 1 + m),.bool false],Own.row b 301 (aW L ++ ([.bool c.pairs,.int .i64 c.count,.int .i64 (c.parts:Int)] ++ spare))] [Own.row wb 149 [.slice (some ⟨b,0,none⟩) (L.length + 1) (L.length + 1 + m),.bool false],Own.row b 301 (aW L ++ ([.bool c.pairs,.int .i64 c.count,.int .i64 (c.parts:Int)] ++ spare))] w u)=>by
   have c0:=t.has.cell wb _ _ mcs 0 _ rfl;have e0:=t.has.cell b _ _ (mcm _ mcs) (N * 3) (.bool c.pairs) (by rw [hN,<- aU,List.getElem?_append_right (by omega)];simp);have e1:=t.has.cell b _ _ (mcm _ mcs) (N * 3 + 1) (.int .i64 c.count) (by rw [hN,<- aU,List.getElem?_append_right (by omega)];simp);have e2:=t.has.cell b _ _ (mcm _ mcs) (N * 3 + 2) (.int .i64 (c.parts:Int)) (by rw [hN,<- aU,List.getElem?_append_right (by omega)];simp);rw [<- hN] at c0
   exact ai c0 (ai e0 (ai e1 e2)))
  obtain ⟨c0,e0,e1,e2⟩:=CF.o w (Own.aA.refl hw)
  have DF:=hhh (fun (u:World) (t:Own.aA [Own.row wb 149 [.slice (some ⟨b,0,none⟩) (L.length + 1) (L.length + 1 + m),.bool false],Own.row b 301 (aW L ++ ([.bool c.pairs,.int .i64 c.count,.int .i64 (c.parts:Int)] ++ spare))] [Own.row wb 149 [.slice (some ⟨b,0,none⟩) (L.length + 1) (L.length + 1 + m),.bool false],Own.row b 301 (aW L ++ ([.bool c.pairs,.int .i64 c.count,.int .i64 (c.parts:Int)] ++ spare))] w u)=>by
   have d0:=fun o=>(t.aD o).has.cell wb _ _ mcs 0 _ rfl
   simp only [<- hN] at d0;have d1:=fun o=>(t.aD o).has.cell wb _ _ mcs 1 _ rfl
   have f0:=fun o=>(t.aD o).has.free wb _ _ mcs 0
   have f1:=fun o=>(t.aD o).has.free wb _ _ mcs 1
   have hlt:=t.has.cL;have hne:¬ wb=u.heap.size:=by omega
   have hne':¬ u.heap.size=wb:=by omega
   have hF:=fun o=>((t.aD o).set 0 (.slice (some ⟨b,0,none⟩) N (N + 1 + m)) (by simp)).set 1 (.bool ((N:Int) == 0)) (by simp)
   exact ai d0 <| ai d1 (ai f0 (ai f1 (ai hne (ai hne' hF)))))
  have HN:=hhh hN;have HB:=hhh (fun u=>bY c.pairs c.count c.parts u);have HU:=hhh (fun u=>fZ c.pairs c.count c.parts hc u);have hI:=hhh hi;have hdec:=hhh (show ((N:Int) == 0)=decide (L.length=0) by rw [HN.o,Bool.eq_iff_iff];simp)
  have HI:=hhh (fun (d:Bool)=>by
   have:=Is.of (wb:=wb) (b:=b) (m:=m + 1) L ([.bool c.pairs,.int .i64 c.count,.int .i64 (c.parts:Int)] ++ spare) d (by simp;omega) (by omega);rw [show L.length + (m + 1)=N + 1 + m by have:=HN.o;omega,<- HN.o] at this
   exact this)
  clear hN hw hi hf hm hsl;obtain ⟨y,k,q⟩:=c;simp only at *
  generalize hb:(Crt.mk y k q).aK=bt at HB;generalize hu:(Crt.mk y k q).full=ft at HU;have Hb:=hhh hb;have Hu:=hhh hu;clear hb hu;go_enter func238,ntmps238;go_wp2_with (fail);refine (HB.o _).mono ?_;rintro e W1 ⟨rfl,b1⟩;have t1:=Own.aA.aJ hW.o b1;obtain ⟨c0,e0,e1,e2⟩:=CF.o _ t1
  cases bt
  ·by_cases hk:0 <= k
   ·have hk':¬ k < 0:=by omega
    go_wp2_with (fail);refine (HU.o _).mono ?_;rintro e W2 ⟨rfl,b2⟩;have t2:=Own.aA.aJ t1.has b2;have t2:=t1.trans t2;obtain ⟨c0,e0,e1,e2⟩:=CF.o _ t2;obtain ⟨d0,d1,f0,f1,hne,hne',hF⟩:=DF.o _ t2;have HF:=hhh hF;clear hF
    cases ft
    ·go_wp2
     go_ret2;have hX:=kW L ⟨y,k,q⟩ false (Or.inr ⟨hk,Hu.o⟩);rw [hX];exact ⟨rfl,_,hI.o,t2⟩
    ·go_wp2
     go_ret2;rw [jB L ⟨y,k,q⟩ false (by rw [Hb.o,Hu.o];simp)];have t3:=HF.o;simp only [hdec.o,ifn (show ¬ k < 0 by omega)] at t3 |-;exact ⟨rfl,_,HI.o _,t3 _⟩
   ·have hk':k < 0:=by omega
    obtain ⟨d0,d1,f0,f1,hne,hne',hF⟩:=DF.o _ t1;have HF:=hhh hF;clear hF;go_wp2;go_ret2;rw [jB L ⟨y,k,q⟩ false (by rw [Hb.o];simp only [Bool.false_eq_true,false_or];omega)];have t3:=HF.o;simp only [hdec.o,ifp (show k < 0 by omega)] at t3 |-;exact ⟨rfl,_,HI.o _,t3 _⟩
  ·go_wp2
   go_ret2;have hX:=kW L ⟨y,k,q⟩ false (Or.inl Hb.o);rw [hX];exact ⟨rfl,_,hI.o,t1⟩
end Cb
end Pip
end
section
open Go.RowKit
open Json (Part)
namespace Pip
namespace Cb
theorem step_end {W : Cw} {wb : Nat} {h : Own.Heap} {w : World} (hi : Is W wb h) (hw : Own.Has w h) (p : Part) (hp : p.may = false ∨ W.done = true) :
  Calls prog 237 #[.pointer (some ⟨wb,0,none⟩),p.val] w fun e w'=>e = .returned (.tuple #[.string ⟨#[]⟩,.int .i64 14]) /\ Own.aA h h w w':=by
 obtain ⟨V,hV⟩:∃ V,V=p.val:=⟨_,rfl⟩;obtain ⟨a,b,m,s,c,hc⟩:=Json.cB p V hV w;rw [<- hV];have hI:=hhh hi;have hW:=hhh hw;obtain ⟨lv,hl,rfl,hs⟩:=hi;clear hs hw;have HC:=hhh hc;clear hc hV;generalize p.may=y at HC hp;have HP:=hhh hp;clear hp;go_enter func237,ntmps237;go_wp2_with (fail);refine HC.o.mono ?_;rintro e W1 ⟨rfl,b1⟩;have t1:=Own.aA.aJ hW.o b1;have c1:=fun o=>(t1.aD o).has.cell wb _ _ mcs 1 _ rfl
 cases y
 ·go_wp2
  go_ret2;exact ⟨rfl,t1.aD _⟩
 ·have hd:W.done=true:=by rcases HP.o with h | h;cases h;exact h
  simp only [hd] at c1;go_wp2;go_ret2;exact ⟨rfl,t1.aD _⟩
theorem gW {W : Cw} {wb n : Nat} {h : Own.Heap} {w : World} (hi : Is W wb h) (hw : Own.Has w h) (hf : W.Fits n) (hn : n ≤ 100000) (hd : W.done = false) :
  Calls prog 237 #[.pointer (some ⟨wb,0,none⟩),Part.close.val] w fun e w'=>e = .returned (.tuple #[.string ⟨W.cD.1.toArray⟩,.int .i64 (W.cD.2.1:Int)]) /\
   ∃ h',Is W.cD.2.2 wb h' /\ Own.aA h h' w w':=by
 have a5:=Json.eK .close;obtain ⟨V,hV⟩:∃ V,V=Part.close.val:=⟨_,rfl⟩;obtain ⟨a,b,m,s,c,hc⟩:=Json.cB .close V hV w;rw [<- hV] at a5 |-;have HX:=hhh (fun u (k:Own.Has u h)=>fS hi k hf hn hd);have hW:=hhh hw;obtain ⟨lv,hl,rfl,hs⟩:=hi;clear hs hw hf;have HC:=hhh hc;clear hc hV;generalize W.cD=R at HX |-;obtain ⟨R1,R2,R3⟩:=R;rw [show Part.close.may=true from rfl] at HC;rw [show Part.close.isClose=true from rfl,show Part.close.inClose = .agg #[] from rfl] at a5;rw [hd] at hW HX |-;go_enter func237,ntmps237;go_wp2_with (fail);refine HC.o.mono ?_;rintro e W1 ⟨rfl,b1⟩;have t1:=Own.aA.aJ hW.o b1;have c1:=fun o=>(t1.aD o).has.cell wb _ _ mcs 1 _ rfl
 go_wp2_with (fail);refine (HX.o _ ((t1.aD _).aD _).has).mono ?_;rintro e W2 ⟨rfl,h',i2,t2⟩;go_wp2;go_ret2;exact ⟨rfl,h',i2,((t1.aD _).aD _).trans t2⟩
end Cb
end Pip
end
section
open Go.RowKit
open Json (Part)
namespace Pip
namespace Cb
theorem aIs (W:Cw) (p:Part) (hm:p.may=true) (hd:W.done=false) (hc:p.isClose=false) (h:W.may p ≠ 0):W.bB p=([],W.may p,W):=by
 unfold Cw.bB;rw [ifn (by simp [hm,hd])]
 cases p with
 | close=>cases hc
 | _=>exact ifp h
theorem aAf (W:Cw) (p:Part) (hm:p.may=true) (hd:W.done=false) (hc:p.isClose=false) (hg:p.isBegin=false) (h:W.may p=0):W.bB p=(cborPlain p,0,⟨W.aR,decide (W.opened=[])⟩):=by
 unfold Cw.bB;rw [ifn (by simp [hm,hd])]
 cases p with
 | close=>cases hc
 | aG m c=>cases hg
 | _=>exact ifn (by simp [h])
theorem aBu (W : Cw) (m : Bool) (c : Int) (hm : (Part.aG m c).may = true) (hd : W.done = false) (h : W.may (.aG m c) = 0) :
  W.bB (.aG m c)=(if c < 0 then [if m then 191 else 159] else put (if m then 5 else 4) c.toNat,0,⟨W.aR ++ [⟨m,c,0⟩],false⟩):=by
 unfold Cw.bB;rw [ifn (by simp [hm,hd])];exact ifn (by simp [h])
theorem infoC:(prog.info? 301).map (fun i=>(i.zero,i.size,i.bytes))=some (some (.agg #[.bool false,.int .i64 0,.int .i64 0]),3,24):=by kernel_rfl
theorem mZ {W : Cw} {wb n : Nat} {h : Own.Heap} {w : World} (hi : Is W wb h) (hw : Own.Has w h) (hf : W.Fits n) (hn : n ≤ 100000) (hd : W.done = false) (p : Part) (hp : Fine p) (hc : p.isClose = false) :
  Calls prog 237 #[.pointer (some ⟨wb,0,none⟩),p.val] w fun e w'=>e = .returned (.tuple #[.string ⟨(W.bB p).1.toArray⟩,.int .i64 ((W.bB p).2.1:Int)]) /\
   ∃ h',Is (W.bB p).2.2 wb h' /\ Own.aA h h' w w':=by
 have hm:=hp.may;have a5:=Json.eK p;have a3:=Json.jA p;have a6:=Json.eP p;have HT:=hhh (fun (hgb:p.isBegin=false) u=>dR p hp hgb hc u);obtain ⟨V,hV⟩:∃ V,V=p.val:=⟨_,rfl⟩;obtain ⟨a,b,m,s,c,hpl⟩:=Json.cB p V hV w;rw [<- hV] at a3 a5 a6 HT |-;have HV:=hhh hV;clear hV;rw [hm] at hpl;have HC:=hhh hpl;clear hpl;have h5:p.inClose = .agg #[]:=rfl;rw [hc,h5] at a5;have hW:=hhh hw;have hI:=hhh hi;have hbad:=hhh (aIs W p hm hd hc);have hF:=hhh (hf.aR false);have hf':=hhh hf;have hdl:=hhh hd;have Hp:=hhh hp;have Hm:=hhh hm;have Hc:=hhh hc;obtain ⟨ad,cc,hl,rfl,hs⟩:=hi.head;rw [hd] at hW hI |-;obtain ⟨N,hN⟩:∃ N,N=W.opened.length:=⟨_,rfl⟩;have hS:=hhh hs;rw [<- hN] at hW hI hS |-;have HN:=hhh hN;have hNb:N <= 100000:=by have:=hf.deep;omega
 clear hs hw hi hf hp hm hc hd h5 hN;go_enter func237,ntmps237;go_wp2_with (fail);refine HC.o.mono ?_;rintro e W1 ⟨rfl,b1⟩;have t1:=Own.aA.aJ hW.o b1;have c1:=fun o=>(t1.aD o).has.cell wb _ _ mcs 1 _ rfl
 have c0:=fun o o'=>((t1.aD o).aD o').has.cell wb _ _ mcs 0 _ rfl
 go_upto_if 51 with (fail)
 go_cut [10,11,12,13] (fun s10 _ _ _ wx=>W.may p=0 /\ ∃ (T:Int) (h2:Own.Heap),s10 = .int .i64 T /\ T=(W.opened.length:Int) - 1 /\ Is (Cw.mk W.aR false) wb h2 /\ Own.aA (Own.row wb 149 [.slice ad N cc,.bool false] :: hl) h2 w wx)
 case first =>
  rcases List.eq_nil_or_concat W.opened with h0 | ⟨L,c,h0⟩
  ·have hN0:=HN.o
   rw [h0] at hN0;obtain rfl:N=0:=hN0;have hbu:=hhh (show W.aR=W.opened by unfold Cw.aR;rw [h0];rfl);have hm0:=hhh (show W.may p=0 by unfold Cw.may;rw [h0];rfl);clear h0;go_wp2_with (fail)
   go_meet
   case rel =>
    refine ⟨hm0.o,_,_,rfl,(by rw [<- HN.o]),?_,(t1.aD _).aD _⟩;rw [hbu.o,show Cw.mk W.opened false=W by rw [<- hdl.o]];exact hI.o
  ·rw [List.concat_eq_append] at h0
   have hN0:=HN.o;rw [h0,lla,List.length_singleton] at hN0;obtain ⟨K,hK⟩:∃ K,K=L.length:=⟨_,rfl⟩;rw [<- hK] at hN0;subst hN0;have hK1:K < 100000:=by have:=hf'.out.deep;rw [h0] at this;simp at this;omega
   have hpc:=hf'.out.parts c (by rw [h0];simp);have hk1:c.parts <= 100000:=by omega
   obtain ⟨b2,m2,spare,e1,rfl,hsl,hm2⟩:=hS.o.at_ (by omega);injection e1 with e2 _ e3
   subst e2 e3;have hbx:aW W.opened=aW L ++ [.bool c.pairs,.int .i64 c.count,.int .i64 (c.parts:Int)]:=by rw [h0,dB];simp [aW]
   have hgl:W.opened.getLast? = some c:=by rw [h0];simp
   have hmay0:W.may p=if c.full=true then 14 else if c.pairs=true /\ c.aK=false /\ p.isWord=false then 8 else 0:=by unfold Cw.may;rw [hgl]
   have hbu:=hhh (show W.aR=L ++ [⟨c.pairs,c.count,c.parts + 1⟩] by unfold Cw.aR;rw [hgl,h0];simp);obtain ⟨y,q,k⟩:=c;simp only at hk1 hbx hmay0 hbu;have HU:=hhh (fun u=>fZ y q k (by omega) u);have HB:=hhh (fun u=>bY y q k u)
   have FX := hhh (fun (cb : Nat) (u : World) (t : Own.aA (Own.row wb 149 [.slice (some ⟨b2, 0, none⟩) (K + 1) (K + 1 + m2), .bool false] :: [Own.row b2 301 (aW W.opened ++ spare)])
     (Own.row cb 301 [.bool y,.int .i64 q,.int .i64 (k:Int)] :: Own.row wb 149 [.slice (some ⟨b2,0,none⟩) (K + 1) (K + 1 + m2),.bool false] :: [Own.row b2 301 (aW W.opened ++ spare)]) w u)=>by
    have g0:=t.has.cell cb _ _ mcs 0 _ rfl;have g1:=t.has.cell cb _ _ mcs 1 _ rfl;have g2:=t.has.cell cb _ _ mcs 2 _ rfl;have w0:=t.has.cell wb _ _ (mcm _ mcs) 0 _ rfl;have e2:=t.has.cell b2 _ _ (mcm _ (mcm _ mcs)) (K * 3 + 2) (.int .i64 (k:Int)) (by rw [hbx,List.append_assoc,hK,<- aU,List.getElem?_append_right (by omega)];simp);have f2:=t.has.free b2 _ _ (mcm _ (mcm _ mcs)) (K * 3 + 2)
    exact ai g0 (ai g1 (ai g2 (ai w0 (ai e2 f2)))))
   have FX0 := hhh (fun (u : World) (t : Own.aA (Own.row wb 149 [.slice (some ⟨b2, 0, none⟩) (K + 1) (K + 1 + m2), .bool false] :: [Own.row b2 301 (aW W.opened ++ spare)])
     (Own.row wb 149 [.slice (some ⟨b2,0,none⟩) (K + 1) (K + 1 + m2),.bool false] :: [Own.row b2 301 (aW W.opened ++ spare)]) w u)=>by
    have e0:=t.has.cell b2 _ _ (mcm _ mcs) (K * 3) (.bool y) (by rw [hbx,List.append_assoc,hK,<- aU,List.getElem?_append_right (by omega)];simp);have e1:=t.has.cell b2 _ _ (mcm _ mcs) (K * 3 + 1) (.int .i64 q) (by rw [hbx,List.append_assoc,hK,<- aU,List.getElem?_append_right (by omega)];simp);have e2:=t.has.cell b2 _ _ (mcm _ mcs) (K * 3 + 2) (.int .i64 (k:Int)) (by rw [hbx,List.append_assoc,hK,<- aU,List.getElem?_append_right (by omega)];simp)
    exact ai e0 (ai e1 e2))
   have FY := hhh (fun (cb : Nat) (u : World) (t : Own.aA (Own.row wb 149 [.slice (some ⟨b2, 0, none⟩) (K + 1) (K + 1 + m2), .bool false] :: [Own.row b2 301 (aW W.opened ++ spare)])
     (Own.row cb 301 [.bool y,.int .i64 q,.int .i64 (k:Int)] :: Own.row wb 149 [.slice (some ⟨b2,0,none⟩) (K + 1) (K + 1 + m2),.bool false] :: [Own.row b2 301 (aW W.opened ++ spare)]) w u)=>by
    have t':=Own.aA.setAt [_,_] (C:=[]) t (K * 3 + 2) (.int .i64 ((k:Int) + 1)) (by rw [hbx,hK];simp [aU]);have hset:(aW W.opened ++ spare).set (K * 3 + 2) (.int .i64 ((k:Int) + 1))=aW (L ++ [⟨y,q,k + 1⟩]) ++ spare:=by
     rw [hbx,List.append_assoc,hK,<- aU,List.set_append_right _ _ (by omega),dB];simp [aW]
    rw [hset] at t'
    exact Own.aA.forget (b:=[_]) t')
   have HI2:=hhh (show Is (Cw.mk (L ++ [⟨y,q,k + 1⟩]) false) wb (Own.row wb 149 [.slice (some ⟨b2,0,none⟩) (K + 1) (K + 1 + m2),.bool false] :: [Own.row b2 301 (aW (L ++ [⟨y,q,k + 1⟩]) ++ spare)]) by
    have:=Is.of (wb:=wb) (b:=b2) (m:=m2) (L ++ [⟨y,q,k + 1⟩]) spare false hsl (by simp;omega);rw [show (L ++ [(⟨y,q,k + 1⟩:Crt)]).length=K + 1 by simp [hK]] at this
    exact this)
   have T2:=hhh (fun o o'=>(t1.aD o).aD o');have d0:=fun o o'=>(FX0.out _ (T2.o o o')).1
   have d1:=fun o o'=>(FX0.out _ (T2.o o o')).2.1
   have d2:=fun o o'=>(FX0.out _ (T2.o o o')).2.2
   have T3:=hhh (fun o o'=>(T2.o o o').aP (W1.heap.size + 1 + 1) (by rw [Json.size_alloc,Json.size_alloc]) 301 [.bool y,.int .i64 q,.int .i64 (k:Int)]);have HI0:=hhh hI.o;clear hbx hgl h0 hK hsl hm2 hS t1;have hk1':(((K + 1:Nat):Int)) - 1=(K:Int):=by omega
   have hkw:IntKind.i64.wrap ((k:Int) + 1)=(k:Int) + 1:=by rw [IntKind.wrap_i64];omega
   generalize (Crt.mk y q k).full=ft at hmay0 HU;generalize (Crt.mk y q k).aK=bt at hmay0 HB;have hmay:=hhh hmay0;clear hmay0
   have Fin := hhh (fun (cb : Nat) (u : World) (t : Own.aA (Own.row wb 149 [.slice (some ⟨b2, 0, none⟩) (K + 1) (K + 1 + m2), .bool false] :: [Own.row b2 301 (aW W.opened ++ spare)])
     (Own.row cb 301 [.bool y,.int .i64 q,.int .i64 (k:Int)] :: Own.row wb 149 [.slice (some ⟨b2,0,none⟩) (K + 1) (K + 1 + m2),.bool false] :: [Own.row b2 301 (aW W.opened ++ spare)]) w u) =>
    (show ∃ h2,Is (Cw.mk W.aR false) wb h2 /\ Own.aA (Own.row wb 149 [.slice (some ⟨b2,0,none⟩) (K + 1) (K + 1 + m2),.bool false] :: [Own.row b2 301 (aW W.opened ++ spare)]) h2 w (u.setCell ⟨b2,K * 3 + 2,none⟩ (.int .i64 ((k:Int) + 1))) by
     rw [hbu.o]
     exact ⟨_,HI2.o,FY.out cb _ t⟩))
   clear FY HI2;go_wp2_with (fail);refine (HU.o _).mono ?_;rintro e W2 ⟨rfl,b3⟩;have t3:=(T3.o _ _).trans (Own.aA.aJ (T3.o _ _).has b3);obtain ⟨x0,x1,x2,w0,x3,x4⟩:=FX.out _ _ t3;clear d0 d1 d2 c0 c1
   cases ft
   ·cases y
    ·have hg:=hhh (show W.may p=0 by rw [hmay.o];rfl)
     go_wp2_with (fail)
     go_meet
     case rel =>
      obtain ⟨h2,i2,t4⟩:=Fin.out _ _ t3;exact ⟨hg.o,_,h2,rfl,by rw [<- HN.o];omega,i2,t4⟩
    ·go_wp2_with (fail)
     refine (HB.o _).mono ?_;rintro e W3 ⟨rfl,b4⟩;have t4:=t3.trans (Own.aA.aJ t3.has b4);obtain ⟨x0,x1,x2,w0,x3,x4⟩:=FX.out _ _ t4;clear t3
     cases bt
     ·cases hiw:p.isWord
      ·have hbb:=hbad.o (by rw [hmay.o,hiw];simp)
       have hm8:W.may p=8:=by rw [hmay.o,hiw];simp
       have Hbb:=hhh (ai hbb hm8);clear hbb hm8 hiw;go_wp2_with (fail);go_ret2;rw [Hbb.o.1,Hbb.o.2];exact ⟨rfl,_,HI0.o,t4.forget (b:=[_])⟩
      ·have hg:=hhh (show W.may p=0 by rw [hmay.o,hiw];simp)
       clear hiw;go_wp2_with (fail)
       go_meet
       case rel =>
        obtain ⟨h2,i2,t5⟩:=Fin.out _ _ t4;exact ⟨hg.o,_,h2,rfl,by rw [<- HN.o];omega,i2,t5⟩
     ·have hg:=hhh (show W.may p=0 by rw [hmay.o];simp)
      go_wp2_with (fail)
      go_meet
      case rel =>
       obtain ⟨h2,i2,t5⟩:=Fin.out _ _ t4;exact ⟨hg.o,_,h2,rfl,by rw [<- HN.o];omega,i2,t5⟩
   ·have hbb:=hbad.o (by rw [hmay.o];simp)
    have hm8:W.may p=14:=by rw [hmay.o];simp
    have Hbb:=hhh (ai hbb hm8);clear hbb hm8;go_wp2_with (fail);go_ret2;rw [Hbb.o.1,Hbb.o.2];exact ⟨rfl,_,HI0.o,t3.forget (b:=[_])⟩
 case rest =>
  obtain ⟨hbad0,T,h2,rfl,hTop,i2,t2⟩:=hcut;have HMay:=hhh hbad0;clear hbad0 c0 c1 hbad;obtain ⟨ad2,cc2,hl2,rfl,s2⟩:=i2.head;have hN2:W.aR.length=N:=by rw [HN.o];exact W.dD
  simp only [hN2] at t2 s2;have HFx:=hhh (fun o=>(t2.aD o))
  have Hon:=hhh (show decide (W.opened=[])=decide (T < 0) by
   rw [Bool.eq_iff_iff];simp only [decide_eq_true_eq]
   rw [<- List.length_eq_zero_iff];omega)
  clear hTop
  cases hg:p.isBegin
  ·have hst:=hhh (aAf W p Hm.o hdl.o Hc.o hg HMay.o)
   have hib:p.inBegin = .agg #[.bool false,.int .i64 0]:=by cases p <;> first | rfl | cases hg
   rw [hg,hib] at a6;have HTx:=hhh (HT.o hg);clear HT;have i3:=hhh (fun d=>(⟨_,_,rfl,by rw [hN2];exact s2⟩:Is (Cw.mk W.aR d) wb (Own.row wb 149 [.slice ad2 N cc2,.bool d] :: hl2)));have t3:=hhh (fun o=>(HFx.o o).set 1 (.bool (decide (T < 0))) (by simp));clear hN2 s2 hib hg i2 t2;have c0:=fun o=>(HFx.o o).has.cell wb _ _ mcs 0 _ rfl
   have c1:=fun o=>(HFx.o o).has.cell wb _ _ mcs 1 _ rfl
   have f1:=fun o=>(HFx.o o).has.free wb _ _ mcs 1
   go_wp2_with (fail);refine (HTx.o _).mono ?_;rintro e W5 ⟨rfl,b5⟩;have t5:=(t3.o _).trans (Own.aA.aJ (t3.o _).has b5);go_wp2;go_ret2;rw [hst.o];refine ⟨rfl,_,i3.o _,?_⟩;rw [Hon.o];exact t5
  ·cases p with
   | aG m2 q2 =>
    have hst:=hhh (aBu W m2 q2 Hm.o hdl.o HMay.o);have hq:=Hp.o.count m2 q2 rfl;rw [show (Part.aG m2 q2).isBegin=true from rfl,show (Part.aG m2 q2).inBegin = .agg #[.bool m2,.int .i64 q2] from rfl] at a6;obtain ⟨i0,hi,hz0,hz1,hz2⟩:=info_parts (P:=prog) (e:=301) (z:=.agg #[.bool false,.int .i64 0,.int .i64 0]) (size:=3) (bytes:=24) infoC;have Hi:=hhh (ai hi (ai hz0 (ai hz1 hz2)));have S2:=hhh s2;have HN2:=hhh hN2;clear hg s2 i2 hi hz0 hz1 hz2 hN2 HT;have c0:=fun o=>(HFx.o o).has.cell wb _ _ mcs 0 _ rfl
    have f0:=fun o=>(HFx.o o).has.free wb _ _ mcs 0
    have hA1 : Own.aA (Own.row wb 149 [.slice ad N cc, .bool false] :: hl) (Own.row (wc.heap.size + 1) 301 [.bool m2, .int .i64 q2, .int .i64 0] :: Own.row wc.heap.size 218 [.bool m2, .int .i64 q2] :: Own.row wb 149 [.slice ad2 N cc2, .bool false] :: hl2) w
      (((wc.alloc (.cells #[.bool m2,.int .i64 q2] 218)).alloc (.cells #[.bool m2,.int .i64 q2,.int .i64 0] 301)).drew):=Own.aA.drew (Own.aA.bC (Own.aA.alloc t2 (.cells #[.bool m2,.int .i64 q2] 218)) (wc.heap.size + 1) (Json.size_alloc wc _) (.cells #[.bool m2,.int .i64 q2,.int .i64 0] 301))
    have hA2 : Own.aA (Own.row wb 149 [.slice ad N cc, .bool false] :: hl) (Own.row (wc.heap.size + 1) 301 [.bool m2, .int .i64 q2, .int .i64 0] :: (hl2 ++ [Own.row wb 149 [.slice ad2 N cc2, .bool false], Own.row wc.heap.size 218 [.bool m2, .int .i64 q2]])) w
      (((wc.alloc (.cells #[.bool m2,.int .i64 q2] 218)).alloc (.cells #[.bool m2,.int .i64 q2,.int .i64 0] 301)).drew):=hA1.perm (.refl _) (Own.aE _ _ fun x=>by simp only [List.count_append,List.count_cons,List.count_nil];omega)
    have HW:=hhh hA2;clear hA1 hA2;have hbz:=hhh (dB W.aR [⟨m2,q2,0⟩]);have c0':=fun o o'=>((HFx.o o).aD o').has.cell wb _ _ mcs 0 _ rfl
    have hltw:=t2.has.cL;have hne:¬ wb=wc.heap.size:=by omega
    have hne':¬ wc.heap.size=wb:=by omega
    clear HFx t2 hltw
    have HBig:=hhh (fun (v:Nat) (k:Int) (h:(v:Int)=k) u=>by
     have:=eM v u;rw [h] at this
     exact this)
    have HB159:=hhh (fun u=>HBig.o 159 159 rfl u);have HB191:=hhh (fun u=>HBig.o 191 191 rfl u)
    have HP4:=hhh (fun (h:¬ q2 < 0) u=>by
     have:=aDm 4 4 rfl (by omega) q2.toNat (by omega) u;rw [Int.toNat_of_nonneg (by omega)] at this
     exact this)
    have HP5:=hhh (fun (h:¬ q2 < 0) u=>by
     have:=aDm 5 5 rfl (by omega) q2.toNat (by omega) u;rw [Int.toNat_of_nonneg (by omega)] at this
     exact this)
    have b4:bits .or .i64 128 31=159:=by decide
    have b5:bits .or .i64 160 31=191:=by decide
    clear HBig
    cases m2
    ·go_wp2_with (fail)
     go_region_law (refine Own.cC rfl _ _ 147 rfl 301 i0 (.agg #[.bool false,.int .i64 0,.int .i64 0]) 3 24 underlying147 Hi.o.1 Hi.o.2.1 Hi.o.2.2.1 Hi.o.2.2.2 rfl (.slice ad2 N cc2) N (aW W.aR) hl2 [Own.row wb 149 [.slice ad2 N cc2,.bool false],Own.row wc.heap.size 218 [.bool _,.int .i64 q2]] rfl S2.o (wc.heap.size + 1) _ HW.o.has rfl rfl ?hy ?c1 ?c2 ?_;(case hy=>(intro u hu;simp only [List.mem_cons,List.not_mem_nil,or_false] at hu;rcases hu with rfl | rfl | rfl <;> rfl));(case c1=>(simp only [maxLen];omega));(case c2=>omega);intro ad' c' h' w1 hs' ht';have d0:=ht'.has.cell wb _ _ (mcm _ (List.mem_append_right _ mcs)) 0 _ rfl;have f0':=ht'.has.free wb _ _ (mcm _ (List.mem_append_right _ mcs)) 0;have d15:=ht'.has.cell wc.heap.size _ _ (mcm _ (List.mem_append_right _ (mcm _ mcs))) 0 _ rfl;have d16:=ht'.has.cell wc.heap.size _ _ (mcm _ (List.mem_append_right _ (mcm _ mcs))) 1 _ rfl)
     all_goals
      have tB:=hhh ((((HW.o).trans ht').forget (b:=[_])).perm (.refl _) List.perm_append_comm);have tC:=(tB.o).set 0 (.slice ad' (N + 1) c') (by simp);have tD:=hhh ((tC.perm (.refl _) (List.Perm.cons _ (List.perm_append_comm (l₁:=[_]) (l₂:=h')))).drop (b:=_ :: h') (c:=[_]));have HS:=hhh hs';clear tC hs' ht';by_cases hq0:q2 < 0
      ·have Hq:=hhh hq0
       go_wp2_with (fail);refine (HB159.o _).mono ?_;rintro e w2 ⟨rfl,b2⟩;have tE:=tD.o.trans (Own.aA.aJ tD.o.has b2);go_wp2;go_ret2;rw [hst.o,ifp Hq.o];refine ⟨rfl,_,⟨.slice ad' (N + 1) c',h',rfl,?_⟩,tE⟩;simp only [lla,List.length_singleton,HN2.o];rw [hbz.o];exact HS.o
      ·have Hq:=hhh hq0
       go_wp2_with (fail);refine (HP4.o (by have:=Hq.o;omega) _).mono ?_;rintro e w2 ⟨rfl,b2⟩;have tE:=tD.o.trans (Own.aA.aJ tD.o.has b2);go_wp2;go_ret2;rw [hst.o,ifn (by have:=Hq.o;omega)];refine ⟨rfl,_,⟨.slice ad' (N + 1) c',h',rfl,?_⟩,tE⟩;simp only [lla,List.length_singleton,HN2.o];rw [hbz.o];exact HS.o
    ·go_wp2_with (fail)
     go_region_law (refine Own.cC rfl _ _ 147 rfl 301 i0 (.agg #[.bool false,.int .i64 0,.int .i64 0]) 3 24 underlying147 Hi.o.1 Hi.o.2.1 Hi.o.2.2.1 Hi.o.2.2.2 rfl (.slice ad2 N cc2) N (aW W.aR) hl2 [Own.row wb 149 [.slice ad2 N cc2,.bool false],Own.row wc.heap.size 218 [.bool _,.int .i64 q2]] rfl S2.o (wc.heap.size + 1) _ HW.o.has rfl rfl ?hy ?c1 ?c2 ?_;(case hy=>(intro u hu;simp only [List.mem_cons,List.not_mem_nil,or_false] at hu;rcases hu with rfl | rfl | rfl <;> rfl));(case c1=>(simp only [maxLen];omega));(case c2=>omega);intro ad' c' h' w1 hs' ht';have d0:=ht'.has.cell wb _ _ (mcm _ (List.mem_append_right _ mcs)) 0 _ rfl;have f0':=ht'.has.free wb _ _ (mcm _ (List.mem_append_right _ mcs)) 0;have d15:=ht'.has.cell wc.heap.size _ _ (mcm _ (List.mem_append_right _ (mcm _ mcs))) 0 _ rfl;have d16:=ht'.has.cell wc.heap.size _ _ (mcm _ (List.mem_append_right _ (mcm _ mcs))) 1 _ rfl)
     all_goals
      have tB:=hhh ((((HW.o).trans ht').forget (b:=[_])).perm (.refl _) List.perm_append_comm);have tC:=(tB.o).set 0 (.slice ad' (N + 1) c') (by simp);have tD:=hhh ((tC.perm (.refl _) (List.Perm.cons _ (List.perm_append_comm (l₁:=[_]) (l₂:=h')))).drop (b:=_ :: h') (c:=[_]));have HS:=hhh hs';clear tC hs' ht';by_cases hq0:q2 < 0
      ·have Hq:=hhh hq0
       go_wp2_with (fail);refine (HB191.o _).mono ?_;rintro e w2 ⟨rfl,b2⟩;have tE:=tD.o.trans (Own.aA.aJ tD.o.has b2);go_wp2;go_ret2;rw [hst.o,ifp Hq.o];refine ⟨rfl,_,⟨.slice ad' (N + 1) c',h',rfl,?_⟩,tE⟩;simp only [lla,List.length_singleton,HN2.o];rw [hbz.o];exact HS.o
      ·have Hq:=hhh hq0
       go_wp2_with (fail);refine (HP5.o (by have:=Hq.o;omega) _).mono ?_;rintro e w2 ⟨rfl,b2⟩;have tE:=tD.o.trans (Own.aA.aJ tD.o.has b2);go_wp2;go_ret2;rw [hst.o,ifn (by have:=Hq.o;omega)];refine ⟨rfl,_,⟨.slice ad' (N + 1) c',h',rfl,?_⟩,tE⟩;simp only [lla,List.length_singleton,HN2.o];rw [hbz.o];exact HS.o
   | _=>cases hg
theorem dN {W : Cw} {wb n : Nat} {h : Own.Heap} {w : World} (hi : Is W wb h) (hw : Own.Has w h) (hf : W.Fits n) (hn : n ≤ 100000) (p : Part) (hp : Fine p) :
  Calls prog 237 #[.pointer (some ⟨wb,0,none⟩),p.val] w fun e w'=>e = .returned (.tuple #[.string ⟨(W.bB p).1.toArray⟩,.int .i64 ((W.bB p).2.1:Int)]) /\
   ∃ h',Is (W.bB p).2.2 wb h' /\ Own.aA h h' w w':=by
 by_cases hd:W.done=true
 ·have hE:W.bB p=([],14,W):=by unfold Cw.bB;rw [ifp (.inr hd)]
  rw [hE];refine (step_end hi hw p (.inr hd)).mono ?_;rintro e w' ⟨rfl,t⟩;exact ⟨rfl,h,hi,t⟩
 ·have hd':W.done=false:=by simpa using hd
  by_cases hc:p.isClose=true
  ·obtain rfl:p = .close:=by cases p <;> first | rfl | cases hc
   have hE:W.bB .close=W.cD:=by unfold Cw.bB;rw [ifn (by simp [hd',Part.may])]
   rw [hE];exact gW hi hw hf hn hd'
  ·exact mZ hi hw hf hn hd' p hp (by simpa using hc)
end Cb
end Pip
end
end Go.Proofs.YtcjflgmcjfcodaaGreat
