/- Texts of the walk, joined. -/
import Derived.Test.YtcjflgmcjfcodaaGreatM03
import Derived.Test.YtcjflgmcjfcodaaGreatM07
import Derived.Test.YtcjflgmcjfcodaaGreatM10
import Derived.Test.YtcjflgmcjfcodaaGreatM11
import Derived.Test.YtcjflgmcjfcodaaGreatM12
import Derived.Below
import Derived.BigRegion
import Derived.Deep.RegionWith
import Derived.Laws.RangeAny
import Derived.Lib.Bytealg
import Derived.Lib.DecodeN
import Derived.Lib.RuneCountTail
import Derived.Shelf.Unicode.DecodeAny
set_option maxRecDepth 100000
set_option maxHeartbeats 8000000
namespace Go.Proofs.Tryz end Go.Proofs.Tryz
namespace Go.Proofs.YtcjflgmcjfcodaaGreat
open Go.Proofs.Tryz
section
namespace Esc
def oI : List UInt8 := [48, 49, 50, 51, 52, 53, 54, 55, 56, 57, 97, 98, 99, 100, 101, 102]
def qI (k : Nat) : UInt8 := oI.getD k 0
def pM (b : UInt8) : Option UInt8 :=
 if b = 34 then some 34 else if b = 92 then some 92 else if b = 8 then some 98 else if b = 12 then some 102
 else if b = 10 then some 110 else if b = 13 then some 114 else if b = 9 then some 116 else none
def rS (b : UInt8) : List UInt8 :=
 match pM b with
 | some x => [92, x]
 | none => if b.toNat < 32 then [92, 117, 48, 48, qI (b.toNat / 16), qI (b.toNat % 16)] else [b]
def write (l : List UInt8) : List UInt8 := l.flatMap rS
theorem vZ (b : UInt8) : (rS b).length ≤ 6 := by
 unfold rS
 split
 ·simp
 ·split <;> simp
theorem vE (s : ByteArray) (pos : Nat) (h : pos < s.size) (ha : 128 ≤ (s[pos]'h).toNat) :
  pos + (Utf8.decode s pos).2 ≤ s.size ∧ ∀ j (hj : pos + j < s.size), j < (Utf8.decode s pos).2 → 128 ≤ (s[pos + j]'hj).toNat := by
 have hg : ∀ k (hk : pos + k < s.size), s.get! (pos + k) = s[pos + k]'hk := by
  intro k hk
  show s.get! (pos + k) = _
  simp [ByteArray.get!, getElem!_pos, hk]
  rfl
 have h0 : s.get! (pos + 0) = s[pos]'h := hg 0 h
 have one : pos + 1 ≤ s.size ∧ ∀ j (hj : pos + j < s.size), j < 1 → 128 ≤ (s[pos + j]'hj).toNat := by
  refine ⟨by omega, fun j hj h1 => ?_⟩
  obtain rfl : j = 0 := by omega
  exact ha
 have cont : ∀ k, (decide (pos + k < s.size) && (s.get! (pos + k)).toNat / 64 == 2) = true → pos + k < s.size ∧ ∀ hk : pos + k < s.size, 128 ≤ (s[pos + k]'hk).toNat := by
  intro k hk
  rw [Bool.and_eq_true, decide_eq_true_eq, beq_iff_eq] at hk
  refine ⟨hk.1, fun h2 => ?_⟩
  rw [hg k h2] at hk
  omega
 unfold Utf8.decode
 simp only [h0]
 rw [if_neg (by omega)]
 split
 ·rename_i hc
  rw [Bool.and_eq_true] at hc
  obtain ⟨c1, d1⟩ := cont 1 hc.2
  split
  ·refine ⟨by dsimp only; omega, fun j hj hlt => ?_⟩
   rcases (show j = 0 ∨ j = 1 by dsimp only at hlt; omega) with rfl | rfl
   ·exact ha
   ·exact d1 hj
  ·exact one
 ·split
  ·rename_i hc
   rw [Bool.and_eq_true, Bool.and_eq_true] at hc
   obtain ⟨c1, d1⟩ := cont 1 hc.1.2
   obtain ⟨c2, d2⟩ := cont 2 hc.2
   split
   ·refine ⟨by dsimp only; omega, fun j hj hlt => ?_⟩
    rcases (show j = 0 ∨ j = 1 ∨ j = 2 by dsimp only at hlt; omega) with rfl | rfl | rfl
    ·exact ha
    ·exact d1 hj
    ·exact d2 hj
   ·exact one
  ·split
   ·rename_i hc
    rw [Bool.and_eq_true, Bool.and_eq_true, Bool.and_eq_true] at hc
    obtain ⟨c1, d1⟩ := cont 1 hc.1.1.2
    obtain ⟨c2, d2⟩ := cont 2 hc.1.2
    obtain ⟨c3, d3⟩ := cont 3 hc.2
    split
    ·refine ⟨by dsimp only; omega, fun j hj hlt => ?_⟩
     rcases (show j = 0 ∨ j = 1 ∨ j = 2 ∨ j = 3 by dsimp only at hlt; omega) with rfl | rfl | rfl | rfl
     ·exact ha
     ·exact d1 hj
     ·exact d2 hj
     ·exact d3 hj
    ·exact one
   ·exact one
end Esc
end
section
open Go.RowKit
namespace Esc
def shortSigns:List UInt8:=[34,92,8,12,10,13,9]
def kS (x:UInt8):Bool :=
 match pM x with
 | none=>Lib.indexByte shortSigns x == -1
 | some y=>decide (0 <= Lib.indexByte shortSigns x) && decide (Lib.indexByte shortSigns x < 7) && ([34,92,98,102,110,114,116][(Lib.indexByte shortSigns x).toNat]? == some y)
theorem letter_idx:∀ n:Fin 256,kS (UInt8.ofNat n.val)=true:=by decide +kernel
theorem oF (x:UInt8):kS x=true:=by
 have h1:=letter_idx ⟨x.toNat,x.toNat_lt⟩;have e:UInt8.ofNat x.toNat=x:=by simp
 simpa only [e] using h1
theorem xQ (x:UInt8) (h:pM x=none):Lib.indexByte shortSigns x = -1:=by
 have h1:=oF x;simp only [kS,h] at h1;exact beq_iff_eq.1 h1
theorem xR (x y:UInt8) (h:pM x=some y):∃ j:Nat,j < 7 /\ Lib.indexByte shortSigns x=(j:Int) /\ [34,92,98,102,110,114,116][j]? = some y:=by
 have h1:=oF x;simp only [kS,h,Bool.and_eq_true,decide_eq_true_eq,beq_iff_eq] at h1;obtain ⟨⟨h2,h3⟩,h4⟩:=h1;exact ⟨_,by omega,by omega,h4⟩
theorem qT (x : UInt8) (n : Int) (w : World) (h : x.toNat < 128) (hn : Lib.indexByte shortSigns x = n) :
  Calls prog 219 #[.string ⟨#[34,92,8,12,10,13,9]⟩,.int .i32 (x.toNat:Int)] w fun e w'=>e = .returned (.int .i64 n) /\ w=w':=by
 refine (Tryz.strings_IndexRune_ascii ⟨#[34,92,8,12,10,13,9]⟩ (x.toNat:Int) w (by omega) (by omega)).mono ?_;rintro e w' ⟨rfl,rfl⟩;refine ⟨?_,rfl⟩;rw [<- hn,Int.toNat_natCast,show x.toNat.toUInt8=x by simp];rfl
theorem lW (s:ByteArray) (k:Nat) (h:k < s.size):(s.extract k s.size).data.toList[0]? = some (s[k]'h):=by
 have h2:k < s.data.toList.length:=by rw [Array.length_toList];exact h
 rw [ByteArray.data_extract,Array.toList_extract,List.extract_eq_take_drop,List.getElem?_take,ifp (by omega),List.getElem?_drop,Nat.add_zero,List.getElem?_eq_getElem h2];rfl
theorem wsT (B : Nat) (acc : List UInt8) (s : ByteArray) (t : List UInt8) (w : World) (h : Lib.IsBuilderF 115 5 B B (Lib.byteCells acc) w) (hlen : acc.length + t.length ≤ 10000000) (hBw : B ≤ w.heap.size) (ht : s.data.toList = t) :
  Calls prog 80 #[.pointer (some ⟨B,0,none⟩),.string s] w fun e w'=>e = .returned (.tuple #[.int .i64 s.size,.nilIface]) /\ Lib.IsBuilderF 115 5 B B (Lib.byteCells (acc ++ t)) w' /\ Below B w w' /\ Lib.OthersKept 5 (some B) w w':=by
 subst ht;exact Bld.ws B B acc s w h (by rw [Array.length_toList] at hlen;exact hlen) hBw
theorem yI (j:Nat) (hj:j < 16):(⟨oI.toArray⟩:ByteArray).extract j (j + 1)=⟨#[qI j]⟩:=by
 rcases (show j=0 \/ j=1 \/ j=2 \/ j=3 \/ j=4 \/ j=5 \/ j=6 \/ j=7 \/ j=8 \/ j=9 \/ j=10 \/ j=11 \/ j=12 \/ j=13 \/ j=14 \/ j=15 by omega) with rfl | rfl | rfl | rfl | rfl | rfl | rfl | rfl | rfl | rfl | rfl | rfl | rfl | rfl | rfl | rfl <;> rfl
theorem aKf (s:ByteArray) (k:Nat) (h:k < s.size):(s.extract k (k + 1)).data.toList=[s[k]'h]:=by
 rw [ByteArray.data_extract,Array.toList_extract,List.extract_eq_take_drop,Mem.drop_one s k h,show k + 1 - k=1 by omega];rfl
end Esc
end
section
namespace Esc
structure bA where
 fst:Nat -> Nat
 lo:Nat -> Nat
 hi:Nat -> Nat
 pow:Nat -> Nat
structure bA.Fits (T:bA):Prop where
 fst:∀ c,c < 256 -> T.fst c < 256
 lo:∀ c,c < 16 -> T.lo c < 256
 hi:∀ c,c < 16 -> T.hi c < 256
 pow:∀ c,c < 20 -> T.pow c < 18446744073709551616
def width (T:bA) (n b0 b1 b2 b3:Nat):Nat :=
 if 240 <= T.fst b0 then 1
 else if n < T.fst b0 % 8 then 1
 else if b1 < T.lo (T.fst b0 / 16) \/ T.hi (T.fst b0 / 16) < b1 then 1
 else if T.fst b0 % 8 <= 2 then 2
 else if b2 < 128 \/ 191 < b2 then 1
 else if T.fst b0 % 8 <= 3 then 3
 else if b3 < 128 \/ 191 < b3 then 1
 else 4
theorem aG7 (T:bA) (n b0 b1 b2 b3:Nat) (h:2 <= n):1 <= width T n b0 b1 b2 b3 /\ width T n b0 b1 b2 b3 <= n /\ width T n b0 b1 b2 b3 <= 4:=by
 unfold width;generalize T.fst b0=x
 repeat' split
 all_goals omega
def fC (T:bA) (s:ByteArray) (k:Nat):Nat:=width T (s.size - k) (s.get! k).toNat (s.get! (k + 1)).toNat (s.get! (k + 2)).toNat (s.get! (k + 3)).toNat
def mM (T:bA) (s:ByteArray):Nat -> Nat -> List UInt8
 | 0,_=>[]
 | f + 1,k =>
  if h:k < s.size then
   if (s[k]'h).toNat < 128 then rS (s[k]'h) ++ mM T s f (k + 1)
   else (s.data.toList.drop k).take (fC T s k) ++ mM T s f (k + (Utf8.decode s k).2)
  else []
def iO (T:bA) (s:ByteArray):List UInt8:=mM T s (s.size + 1) 0
theorem jW (T:bA) (s:ByteArray):∀ f k,(mM T s f k).length <= 6 * f
 | 0,_=>Nat.le_refl _
 | f + 1,k=>by
  unfold mM
  split
  ·split
   ·have h1:=vZ (s[k]'(by assumption))
    have h2:=jW T s f (k + 1)
    rw [lla];omega
   ·have h1:((s.data.toList.drop k).take (fC T s k)).length <= 4:=by
     refine Nat.le_trans (List.length_take_le _ _) ?_;unfold fC width
     repeat' split
     all_goals decide
    have h2:=jW T s f (k + (Utf8.decode s k).2);rw [lla];omega
  ·simp
def Sound (s:ByteArray):Prop :=
 ∃ P:Nat -> Prop,P 0 /\ ∀ k (h:k < s.size),P k -> ((s[k]'h).toNat < 128 -> P (k + 1)) /\ (128 <= (s[k]'h).toNat -> k + 1 < s.size /\ P (k + (Utf8.decode s k).2))
theorem oW (s:ByteArray) (k:Nat) (l:List UInt8) (h:s.data.toList.drop k=l) (i:Nat) (hi:i < l.length):s.get! (k + i)=l[i]:=by
 subst h;rw [List.length_drop,Array.length_toList] at hi;have hk:k + i < s.data.size:=by omega
 rw [List.getElem_drop,Array.getElem_toList]
 cases s with
 | mk d=>exact getElem!_pos d (k + i) hk
theorem aAy (n a b:Nat) (c d:Nat) (hn:2 <= n) (h1:194 <= a) (h2:a <= 223) (h3:128 <= b) (h4:b <= 191):(Lib.decodeN n a b c d).2=2:=by
 unfold Lib.decodeN;rw [ifn (by omega),ifp (by omega),ifp (by omega)]
theorem uY (n a b c:Nat) (d:Nat) (hn:3 <= n) (h1:224 <= a) (h2:a <= 239) (h3:(if a=224 then 160 else 128) <= b) (h4:b <= (if a=237 then 159 else 191)) (h5:128 <= c) (h6:c <= 191):(Lib.decodeN n a b c d).2=3:=by
 unfold Lib.decodeN;have g3:128 <= b /\ (a=224 -> 160 <= b):=by split at h3 <;> omega
 have g4:b <= 191 /\ (a=237 -> b <= 159):=by split at h4 <;> omega
 clear h3 h4;rw [ifn (by omega),ifn (by omega),ifp (by omega),ifp ?_];have:∃ v,v=a % 16 * 4096 + b % 64 * 64 + c % 64:=⟨_,rfl⟩;obtain ⟨v,hv⟩:=this;rw [<- hv];by_cases e1:a=224
 ·have:=g3.2 e1;omega
 ·by_cases e2:a=237
  ·have:=g4.2 e2;omega
  ·omega
theorem yY (n a b c d:Nat) (hn:4 <= n) (h1:240 <= a) (h2:a <= 244) (h3:(if a=240 then 144 else 128) <= b) (h4:b <= (if a=244 then 143 else 191)) (h5:128 <= c) (h6:c <= 191) (h7:128 <= d) (h8:d <= 191):(Lib.decodeN n a b c d).2=4:=by
 unfold Lib.decodeN;have g3:128 <= b /\ (a=240 -> 144 <= b):=by split at h3 <;> omega
 have g4:b <= 191 /\ (a=244 -> b <= 143):=by split at h4 <;> omega
 clear h3 h4;rw [ifn (by omega),ifn (by omega),ifn (by omega),ifp (by omega),ifp ?_];have:∃ v,v=a % 8 * 262144 + b % 64 * 4096 + c % 64 * 64 + d % 64:=⟨_,rfl⟩;obtain ⟨v,hv⟩:=this;rw [<- hv];by_cases e1:a=240
 ·have:=g3.2 e1;omega
 ·by_cases e2:a=244
  ·have:=g4.2 e2;omega
  ·omega
theorem zD (s:ByteArray) (k:Nat) (g l:List UInt8) (h:s.data.toList.drop k=g ++ l) (hg:Good g):g ≠ [] /\ (2 <= g.length -> (Utf8.decode s k).2=g.length):=by
 have hlen:s.size - k=(g ++ l).length:=by rw [<- h,List.length_drop,Array.length_toList];rfl
 rw [Lib.decode_at];have at0:=oW s k _ h 0;have at1:=oW s k _ h 1;have at2:=oW s k _ h 2;have at3:=oW s k _ h 3;rw [hlen]
 match g,hg with
 | [a],_=>exact ⟨by simp,fun h=>absurd h (by simp)⟩
 | [a,b],hg =>
  refine ⟨by simp,fun _=>?_⟩;simp only [List.length_cons,List.length_nil,List.cons_append,List.nil_append,List.getElem_cons_zero,List.getElem_cons_succ,Nat.add_zero] at at0 at1 |-;rw [at0 (by omega),at1 (by omega)];exact aAy _ _ _ _ _ (by omega) hg.1 hg.2.1 hg.2.2.1 hg.2.2.2
 | [a,b,c],hg =>
  refine ⟨by simp,fun _=>?_⟩;simp only [List.length_cons,List.length_nil,List.cons_append,List.nil_append,List.getElem_cons_zero,List.getElem_cons_succ,Nat.add_zero] at at0 at1 at2 |-;rw [at0 (by omega),at1 (by omega),at2 (by omega)];exact uY _ _ _ _ _ (by omega) hg.1 hg.2.1 hg.2.2.1 hg.2.2.2.1 hg.2.2.2.2.1 hg.2.2.2.2.2
 | [a,b,c,d],hg =>
  refine ⟨by simp,fun _=>?_⟩;simp only [List.length_cons,List.length_nil,List.cons_append,List.nil_append,List.getElem_cons_zero,List.getElem_cons_succ,Nat.add_zero] at at0 at1 at2 at3 |-;rw [at0 (by omega),at1 (by omega),at2 (by omega),at3 (by omega)];exact yY _ _ _ _ _ (by omega) hg.1 hg.2.1 hg.2.2.1 hg.2.2.2.1 hg.2.2.2.2.1 hg.2.2.2.2.2.1 hg.2.2.2.2.2.2.1 hg.2.2.2.2.2.2.2
theorem aA4 (g:List UInt8) (hg:Good g) (h:2 <= g.length):128 <= (g.getD 0 0).toNat:=by
 match g,hg with
 | [a],_=>simp at h
 | [a,b],hg=>have:=hg.1;show 128 <= a.toNat;omega
 | [a,b,c],hg=>have:=hg.1;show 128 <= a.toNat;omega
 | [a,b,c,d],hg=>have:=hg.1;show 128 <= a.toNat;omega
theorem Val.sound {s:ByteArray} (h:Val s.data.toList):Sound s:=by
 refine ⟨fun k=>Val (s.data.toList.drop k),h,fun k hk hv=>?_⟩;have hlen:(s.data.toList.drop k).length=s.size - k:=by rw [List.length_drop,Array.length_toList];rfl
 have hd:s.data.toList.drop k=s[k]'hk :: s.data.toList.drop (k + 1):=by
  have hk2:k < s.data.toList.length:=by rw [Array.length_toList];exact hk
  rw [List.drop_eq_getElem_cons hk2];rfl
 have hv:Val (s.data.toList.drop k):=hv;show ((s[k]'hk).toNat < 128 -> Val (s.data.toList.drop (k + 1))) /\ (128 <= (s[k]'hk).toNat -> k + 1 < s.size /\ Val (s.data.toList.drop (k + (Utf8.decode s k).2)));generalize hD:s.data.toList.drop k=D at hv hlen hd
 cases hv with
 | nil=>simp at hlen;omega
 | cons g l hg hl =>
  have hx:=zD s k g l hD hg;have hgl:1 <= g.length:=by
   cases g with
   | nil=>exact absurd rfl hx.1
   | cons _ _=>simp
  have hlen2:g.length + l.length=s.size - k:=by rw [<- hlen,lla]
  by_cases h2:2 <= g.length
  ·have hf:=aA4 g hg h2
   have hf2:g.getD 0 0=s[k]'hk:=by
    cases g with
    | nil=>simp at h2
    | cons a g=>exact (List.cons.inj hd).1
   rw [hf2] at hf;refine ⟨fun h=>by omega,fun _=>⟨by omega,?_⟩⟩;rw [hx.2 h2,<- List.drop_drop,hD,List.drop_append_of_le_length (Nat.le_refl _),List.drop_length,List.nil_append];exact hl
  ·match g,hg,hgl,h2 with
   | [a],hg,_,_ =>
    obtain ⟨e1,e2⟩:=List.cons.inj hd;refine ⟨fun _=>by rw [<- e2];exact hl,fun h=>?_⟩;have:a.toNat < 128:=hg;rw [e1] at this;omega
   | _ :: _ :: _,_,_,h2=>simp at h2
end Esc
end
section
open Go.RowKit
namespace Esc
structure bP (T:bA) (w:World):Prop where
 fst:∀ c,c < 256 -> w.cell? ⟨1,c,none⟩=some (.int .u8 (T.fst c:Int))
 acc:∀ i,i < 16 -> w.cell? ⟨2,i * 2,none⟩=some (.int .u8 (T.lo i:Int)) /\ w.cell? ⟨2,i * 2 + 1,none⟩=some (.int .u8 (T.hi i:Int))
 pow:∀ c,c < 20 -> w.cell? ⟨3,c,none⟩=some (.int .u64 (T.pow c:Int))
 fits:T.Fits
def tabsEnd:Nat:=max (max 1 2) 3 + 1
theorem tabs_1:1 < tabsEnd:=by decide
theorem tabs_2:2 < tabsEnd:=by decide
theorem tabs_3:3 < tabsEnd:=by decide
theorem bP.of {T:bA} {u v:World} (h:bP T u) (b:Below tabsEnd u v):bP T v :=
 ⟨fun c hc=>(b.cell (p:=⟨1,c,none⟩) tabs_1).trans (h.fst c hc),
  fun i hi=>⟨(b.cell (p:=⟨2,i * 2,none⟩) tabs_2).trans (h.acc i hi).1,(b.cell (p:=⟨2,i * 2 + 1,none⟩) tabs_2).trans (h.acc i hi).2⟩,
  fun c hc=>(b.cell (p:=⟨3,c,none⟩) tabs_3).trans (h.pow c hc),h.fits⟩
theorem bP.size {T:bA} {w:World} (h:bP T w):tabsEnd <= w.heap.size:=by
 have lt:∀ {a:Addr} {v:Value},w.cell? a=some v -> a.block < w.heap.size:=fun {a v} hc=>by
  rcases Nat.lt_or_ge a.block w.heap.size with h' | h'
  ·exact h'
  ·simp [World.cell?,Array.getElem?_eq_none h'] at hc
 have h1:=lt (h.fst 0 (by decide));have h2:=lt (h.acc 0 (by decide)).1;have h3:=lt (h.pow 0 (by decide));unfold tabsEnd;simp only at h1 h2 h3;omega
theorem aGj (z:Int) (h0:0 <= z) (h:z < 8):wrap64 z=z:=by unfold wrap64;omega
def Dec (n:Nat) (w:World) (e:Ending) (w':World):Prop:=(∃ r:Int,e = .returned (.tuple #[.int .i32 r,.int .i64 (n:Int)])) /\ Below w.heap.size w w'
theorem aG8 (T : bA) (s : ByteArray) (w : World) (hT : bP T w) (h2 : 2 ≤ s.size) :
  Calls prog 222 #[.string s] w (Dec (fC T s 0) w):=by
 have hz0:(0:Int) < (s.size:Int):=by omega
 have hz0':¬ ((s.size:Int) < 1):=by omega
 have hz1:(1:Int) < (s.size:Int):=by omega
 have hw0:fC T s 0=width T s.size (s.get! 0).toNat (s.get! 1).toNat (s.get! 2).toNat (s.get! 3).toNat:=rfl;rw [hw0];clear hw0;obtain ⟨x0,hx0⟩:∃ x0,s.get! 0=x0:=⟨_,rfl⟩;obtain ⟨x1,hx1⟩:∃ x1,s.get! 1=x1:=⟨_,rfl⟩;obtain ⟨x2,hx2⟩:∃ x2,s.get! 2=x2:=⟨_,rfl⟩;obtain ⟨x3,hx3⟩:∃ x3,s.get! 3=x3:=⟨_,rfl⟩;rw [hx0,hx1,hx2,hx3];have l0:=x0.toNat_lt;have l1:=x1.toNat_lt;have l2:=x2.toNat_lt;have l3:=x3.toNat_lt;have hs0:s[0]'(by omega)=x0:=by rw [<- hx0];exact (Go.Proofs.Utf8W.get!_of_lt s 0 (by omega)).symm
 have hs1:s[1]'(by omega)=x1:=by rw [<- hx1];exact (Go.Proofs.Utf8W.get!_of_lt s 1 (by omega)).symm
 have hc0:=hT.fst x0.toNat l0;have hX:=hT.fits.fst x0.toNat l0;unfold width;obtain ⟨X,hXe⟩:∃ X,X=T.fst x0.toNat:=⟨_,rfl⟩;rw [<- hXe] at hc0 hX |-;obtain ⟨q,hq⟩:∃ q,q=X / 16:=⟨_,rfl⟩;obtain ⟨z,hz⟩:∃ z,z=X % 8:=⟨_,rfl⟩;have hq16:q < 16:=by omega
 have ha0:=(hT.acc q hq16).1;have ha1:=(hT.acc q hq16).2;have hlo:=hT.fits.lo q hq16;have hhi:=hT.fits.hi q hq16;rw [<- hq,<- hz];obtain ⟨lo,hloe⟩:∃ lo,lo=T.lo q:=⟨_,rfl⟩;obtain ⟨hi,hhie⟩:∃ hi,hi=T.hi q:=⟨_,rfl⟩;rw [<- hloe,<- hhie];rw [<- hloe] at ha0 hlo;rw [<- hhie] at ha1 hhi;have eq:(X:Int) / 16=(q:Int):=by omega
 have ez:bits .and .u8 (X:Int) 7=(z:Int):=by
  have:=bits_mask .u8 8 (by decide) wraps_u8 3 (by decide) (X:Int) (by omega) (by omega);rw [hz];simpa using this
 have Wz:=hhh (aGj (z:Int) (by omega) (by omega));clear hT hXe hloe hhie hx0 hx1;by_cases k1:240 <= X
 ·rw [ifp k1]
  clear ha0 ha1 eq ez hs1;go_enter func222,ntmps222;go_wp2;go_ret2;exact ⟨⟨_,rfl⟩,Below.refl _ _⟩
 ·rw [ifn k1]
  have i1:¬ (240:Int) <= (X:Int):=by omega
  clear hq hz;by_cases k2:s.size < z
  ·rw [ifp k2]
   have i2:(s.size:Int) < (z:Int):=by omega
   have wz:=Wz.o;go_enter func222,ntmps222;go_wp2
   all_goals (go_ret2;exact ⟨⟨65533,rfl⟩,(Below.refl _ _).alloc (Nat.le_refl _) _⟩)
  ·rw [ifn k2]
   have i2:¬ (s.size:Int) < (z:Int):=by omega
   by_cases k3:x1.toNat < lo \/ hi < x1.toNat
   ·rw [ifp k3]
    by_cases k3a:x1.toNat < lo
    ·have i3:(x1.toNat:Int) < (lo:Int):=by omega
     clear k3;have wz:=Wz.o;go_enter func222,ntmps222;go_wp2
     all_goals (go_ret2;exact ⟨⟨65533,rfl⟩,(Below.refl _ _).alloc (Nat.le_refl _) _⟩)
    ·have i3:¬ (x1.toNat:Int) < (lo:Int):=by omega
     have i4:(hi:Int) < (x1.toNat:Int):=by omega
     clear k3;have wz:=Wz.o;go_enter func222,ntmps222;go_wp2
     all_goals (go_ret2;exact ⟨⟨65533,rfl⟩,(Below.refl _ _).alloc (Nat.le_refl _) _⟩)
   ·rw [ifn k3]
    have i3:¬ (x1.toNat:Int) < (lo:Int):=by omega
    have i4:¬ (hi:Int) < (x1.toNat:Int):=by omega
    clear k3;by_cases k4:z <= 2
    ·rw [ifp k4]
     have hz3:z=0 \/ z=1 \/ z=2:=by omega
     clear Wz i2 k2;rcases hz3 with rfl | rfl | rfl
     all_goals
      simp only [Int.cast_ofNat_Int] at ez;have i2:¬ (s.size:Int) < 0:=by omega
      have i2':¬ (s.size:Int) < 1:=by omega
      have i2'':¬ (s.size:Int) < 2:=by omega
      go_enter func222,ntmps222;go_wp2
      all_goals (go_ret2;exact ⟨⟨_,rfl⟩,(Below.refl _ _).alloc (Nat.le_refl _) _⟩)
    ·rw [ifn k4]
     have i5:¬ (z:Int) <= 2:=by omega
     have hz2:(2:Int) < (s.size:Int):=by omega
     have hs2:s[2]'(by omega)=x2:=by rw [<- hx2];exact (Go.Proofs.Utf8W.get!_of_lt s 2 (by omega)).symm
     by_cases k5:x2.toNat < 128 \/ 191 < x2.toNat
     ·rw [ifp k5]
      by_cases k5a:x2.toNat < 128
      ·have i6:(x2.toNat:Int) < 128:=by omega
       clear k5;have wz:=Wz.o;go_enter func222,ntmps222;go_wp2
       all_goals (go_ret2;exact ⟨⟨65533,rfl⟩,(Below.refl _ _).alloc (Nat.le_refl _) _⟩)
      ·have i6:¬ (x2.toNat:Int) < 128:=by omega
       have i7:(191:Int) < (x2.toNat:Int):=by omega
       clear k5;have wz:=Wz.o;go_enter func222,ntmps222;go_wp2
       all_goals (go_ret2;exact ⟨⟨65533,rfl⟩,(Below.refl _ _).alloc (Nat.le_refl _) _⟩)
     ·rw [ifn k5]
      have i6:¬ (x2.toNat:Int) < 128:=by omega
      have i7:¬ (191:Int) < (x2.toNat:Int):=by omega
      clear k5;by_cases k6:z <= 3
      ·rw [ifp k6]
       have i8:(z:Int) <= 3:=by omega
       have wz:=Wz.o;go_enter func222,ntmps222;go_wp2
       all_goals (go_ret2;exact ⟨⟨(x0.toNat:Int) % 16 * 4096 + (x1.toNat:Int) % 64 * 64 + (x2.toNat:Int) % 64,rfl⟩,(Below.refl _ _).alloc (Nat.le_refl _) _⟩)
      ·rw [ifn k6]
       have i8:¬ (z:Int) <= 3:=by omega
       have hz3:(3:Int) < (s.size:Int):=by omega
       have hs3:s[3]'(by omega)=x3:=by rw [<- hx3];exact (Go.Proofs.Utf8W.get!_of_lt s 3 (by omega)).symm
       by_cases k7:x3.toNat < 128 \/ 191 < x3.toNat
       ·rw [ifp k7]
        by_cases k7a:x3.toNat < 128
        ·have i9:(x3.toNat:Int) < 128:=by omega
         clear k7;have wz:=Wz.o;go_enter func222,ntmps222;go_wp2
         all_goals (go_ret2;exact ⟨⟨65533,rfl⟩,(Below.refl _ _).alloc (Nat.le_refl _) _⟩)
        ·have i9:¬ (x3.toNat:Int) < 128:=by omega
         have j1:(191:Int) < (x3.toNat:Int):=by omega
         clear k7;have wz:=Wz.o;go_enter func222,ntmps222;go_wp2
         all_goals (go_ret2;exact ⟨⟨65533,rfl⟩,(Below.refl _ _).alloc (Nat.le_refl _) _⟩)
       ·rw [ifn k7]
        have i9:¬ (x3.toNat:Int) < 128:=by omega
        have j1:¬ (191:Int) < (x3.toNat:Int):=by omega
        clear k7;have wz:=Wz.o;go_enter func222,ntmps222;go_wp2
        all_goals (go_ret2;exact ⟨⟨(x0.toNat:Int) % 8 * 262144 + (x1.toNat:Int) % 64 * 4096 + (x2.toNat:Int) % 64 * 64 + (x3.toNat:Int) % 64,rfl⟩,(Below.refl _ _).alloc (Nat.le_refl _) _⟩)
theorem aI4 (T : bA) (s : ByteArray) (w : World) (hT : bP T w) (h2 : 2 ≤ s.size) (x : UInt8) (h0 : s.data.toList[0]? = some x) (hx : 128 ≤ x.toNat) :
  Calls prog 218 #[.string s] w (Dec (fC T s 0) w):=by
 have cS:=hhh (aG8 T s w hT h2);have hs0:s[0]'(by omega)=x:=by
  have h3:0 < s.data.toList.length:=by rw [Array.length_toList];show 0 < s.size;omega
  rw [List.getElem?_eq_getElem h3] at h0;exact Option.some.inj h0
 have hne:s.toList.isEmpty=false:=by
  rw [Lib.toList_data]
  cases h:s.data.toList with
  | nil=>rw [h] at h0;cases h0
  | cons _ _=>rfl
 have hz0:(0:Int) < (s.size:Int):=by omega
 have hx2:¬ ((x.toNat:Int) < 128):=by omega
 clear h0 hT;go_enter func218,ntmps218;go_wp2_with (fail);refine cS.o.mono ?_;rintro e w' ⟨⟨r,rfl⟩,hb⟩;go_wp2;go_ret2;exact ⟨⟨_,rfl⟩,hb⟩
end Esc
end
section
open Go.RowKit
namespace Esc
theorem gI (s:ByteArray) (k i:Nat) (h:k + i < s.size):(s.extract k s.size).get! i=s.get! (k + i):=by
 have h1:i < (s.extract k s.size).size:=by rw [ByteArray.size_extract];omega
 rw [Go.Proofs.Utf8W.get!_of_lt _ _ h1,Go.Proofs.Utf8W.get!_of_lt _ _ h];simp [ByteArray.getElem_extract]
theorem uW (T:bA) (s:ByteArray) (k:Nat) (h:k + 1 < s.size):fC T (s.extract k s.size) 0=fC T s k:=by
 unfold fC;rw [ByteArray.size_extract,show min s.size s.size - k - 0=s.size - k by omega];have e0:=gI s k 0 (by omega);have e1:=gI s k 1 (by omega);rw [e0,e1,Nat.add_zero];unfold width;generalize T.fst (s.get! k).toNat=x;by_cases h2:s.size - k < x % 8
 ·simp [h2]
 ·by_cases h3:x % 8 <= 2
  ·simp [h2,h3]
  ·have e2:=gI s k 2 (by omega)
   rw [e2];by_cases h4:x % 8 <= 3
   ·simp [h2,h4]
   ·have e3:=gI s k 3 (by omega)
    rw [e3]
theorem aB5 (T : bA) (s : ByteArray) (w : World) (hs : s.size ≤ 100000) (hT : bP T w) (hsound : Sound s) :
  Calls prog 215 #[.string s] w fun e w'=>e = .returned (.string ⟨(iO T s).toArray⟩) /\ Below w.heap.size w w':=by
 have HT:=hhh hT;have HTz:=hhh hT.size;clear hT;obtain ⟨P,hP0,hPn⟩:=hsound;have HP:=hhh hPn;clear hPn;go_enter func215,ntmps215;go_wp2
 go_loopw [] (fun wr => ∃ (k f : Nat) (acc : List UInt8), k ≤ s.size ∧ s.size < k + f ∧ P k ∧ Lib.IsBuilderF 115 5 w.heap.size w.heap.size (Lib.byteCells acc) wr ∧ wr.heap[w.heap.size + 1]? = some (.stringIter s k) ∧ Below w.heap.size w wr ∧ acc.length ≤ 6 * k ∧
   acc ++ mM T s f k=iO T s) (fun wr=>s.size - wr.iterPos (w.heap.size + 1))
 case atStart =>
  refine ⟨0,s.size + 1,[],by omega,by omega,hP0,?_,?_,((Below.refl _ w).alloc (Nat.le_refl _) _).alloc (by simp) _,by simp,rfl⟩
  ·exact Bld.below (Bld.fresh w _ _ (Nat.le_refl _) rfl) ((Below.refl _ _).alloc (Nat.le_refl _) _)
  ·have:=World.iter_heap (w.alloc (.cells #[.pointer none,.slice none 0 0] 115)) s 0
   simpa using this
 case round =>
  obtain ⟨k,f,acc,hk,hkf,hPk,hB,hit,hbw,hal,heq⟩:=hrel;have hsz:w.heap.size + 1 < wr.heap.size:=(Array.getElem?_eq_some_iff.1 hit).1;have Heq:=hhh heq;have HB:=hhh hB;clear heq hB;by_cases hp:k < s.size
  ·have HPk:=hhh (HP.o k hp hPk)
   obtain ⟨f,rfl⟩:∃ g,f=g + 1:=⟨f - 1,by omega⟩;by_cases ha:(s[k]'hp).toNat < 128
   ·have Hd:=hhh (show mM T s (f + 1) k=rS (s[k]'hp) ++ mM T s f (k + 1) by rw [mM,dif_pos hp,ifp ha])
    have Hpn:=hhh (HPk.o.1 ha);have hkf2:s.size < k + 1 + f:=by omega
    clear hkf hPk;have hnx:∀ ty,(Instr.next (.pointer (some ⟨w.heap.size + 1,0,none⟩)) true ty).run prog wr=_:=fun ty=>Lib.run_next_ascii_at wr (w.heap.size + 1) s k ty hit hp ha
    have hit2:=Lib.iterAt_heap wr (w.heap.size + 1) s k (k + 1) hit;have hbw2:=Lib.below_iterAt hbw (k:=w.heap.size + 1) (by omega) s (k + 1);have HB2:=hhh (HB.o.iterAt hit (k + 1));have hsl:∀ wx,(Instr.slice 9 (.string s) (some (.int .i64 (k:Int))) none none).run prog wx = .ok (.string (s.extract k s.size)) wx:=by
     intro wx;rw [run_slice_string_from_if wx _ _ _ _ underlying9,ifp ⟨by omega,by omega⟩];rfl
    cases hl:pM (s[k]'hp) with
    | some y =>
     obtain ⟨j,hj,hi,hy⟩:=xR _ y hl;have HI:=hhh hi;have HE:=hhh (show rS (s[k]'hp)=[92,y] by rw [rS,hl]);clear hi hl;rcases (show j=0 \/ j=1 \/ j=2 \/ j=3 \/ j=4 \/ j=5 \/ j=6 by omega) with rfl | rfl | rfl | rfl | rfl | rfl | rfl
     all_goals
      have HY:=hhh (Option.some.inj hy);clear hy hj;go_wp2_with (fail);refine (Tryz.utf8_DecodeRuneInString_ascii _ (s[k]'hp) _ (lW s k hp) ha).mono ?_;rintro e W1 ⟨rfl,rfl⟩;go_wp2_with (fail);refine (qT _ _ _ ha HI.o).mono ?_;rintro e W1 ⟨rfl,rfl⟩;go_wp2_with (fail);refine (wsT w.heap.size acc _ [92,y] _ HB2.o (by simp;omega) hbw2.size (by rw [<- HY.o];rfl)).mono ?_;rintro e W2 ⟨rfl,b2,bb2,k2⟩;have hit3:=k2.iter hit2 (by omega);have B2:=hhh b2;clear b2;go_wp2;go_roundw
      case rel =>
       refine ⟨k + 1,f,acc ++ [92,y],by omega,hkf2,Hpn.o,B2.o,hit3,hbw2.trans bb2,by simp;omega,?_⟩;rw [<- Heq.o,Hd.o,HE.o,List.append_assoc]
      case measure =>
       simp only [World.iterPos,hit3,hit];omega
    | none =>
     have hi:=xQ _ hl;have HI:=hhh hi;clear hi;by_cases h32:(s[k]'hp).toNat < 32
     ·have HE:=hhh (show rS (s[k]'hp)=[92,117,48,48,qI ((s[k]'hp).toNat / 16),qI ((s[k]'hp).toNat % 16)] by rw [rS,hl];simp only [];rw [ifp h32])
      clear hl;go_wp2_with (fail);refine (Tryz.utf8_DecodeRuneInString_ascii _ (s[k]'hp) _ (lW s k hp) ha).mono ?_;rintro e W1 ⟨rfl,rfl⟩;go_wp2_with (fail);refine (qT _ _ _ ha HI.o).mono ?_;rintro e W1 ⟨rfl,rfl⟩;obtain ⟨qa,hqa⟩:∃ q:Nat,q=(s[k]'hp).toNat / 16:=⟨_,rfl⟩;obtain ⟨qd,hqd⟩:∃ q:Nat,q=(s[k]'hp).toNat % 16:=⟨_,rfl⟩;have ea:((s[k]'hp).toNat:Int) / 16=(qa:Int):=by omega
      have ed:bits .and .i32 ((s[k]'hp).toNat:Int) 15=(qd:Int):=by
       have:=bits_mask .i32 31 (by decide) wraps_i32 4 (by decide) ((s[k]'hp).toNat:Int) (by omega) (by omega);rw [hqd];simpa using this
      have la:qa < 16:=by omega
      have ld:qd < 16:=by omega
      have wa:IntKind.i32.wrap ((qa:Int) + 1)=(qa:Int) + 1:=by rw [IntKind.wrap_i32];omega
      have wd:IntKind.i32.wrap ((qd:Int) + 1)=(qd:Int) + 1:=by rw [IntKind.wrap_i32];omega
      have sa:∀ wx,(Instr.slice 9 (.string ⟨#[48,49,50,51,52,53,54,55,56,57,97,98,99,100,101,102]⟩) (some (.int .i32 (qa:Int))) (some (.int .i32 ((qa:Int) + 1))) none).run prog wx = .ok (.string ⟨#[qI qa]⟩) wx:=by
       intro wx;rw [run_slice_string wx _ _ _ _ _ _ underlying9 (by omega) (by omega) (by show _ <= (16:Int);omega),<- yI qa la];rfl
      have sd:∀ wx,(Instr.slice 9 (.string ⟨#[48,49,50,51,52,53,54,55,56,57,97,98,99,100,101,102]⟩) (some (.int .i32 (qd:Int))) (some (.int .i32 ((qd:Int) + 1))) none).run prog wx = .ok (.string ⟨#[qI qd]⟩) wx:=by
       intro wx;rw [run_slice_string wx _ _ _ _ _ _ underlying9 (by omega) (by omega) (by show _ <= (16:Int);omega),<- yI qd ld];rfl
      rw [<- hqa,<- hqd] at HE;clear hqa hqd la ld;have HB3:=hhh (Bld.below HB2.o (Below.refl _ (wr.iterAt (w.heap.size + 1) s (k + 1))).drew);have hsz3:w.heap.size <= (wr.iterAt (w.heap.size + 1) s (k + 1)).drew.heap.size:=hbw2.size;have hit2d:(wr.iterAt (w.heap.size + 1) s (k + 1)).drew.heap[w.heap.size + 1]? = some (.stringIter s (k + 1)):=hit2;have hbw2d:Below w.heap.size w (wr.iterAt (w.heap.size + 1) s (k + 1)).drew:=hbw2.drew;have HC:=hhh (fun t ht=>wsT w.heap.size acc t [92,117,48,48,qI qa,qI qd] _ HB3.o (by simp;omega) hsz3 ht);have Hit2d:=hhh hit2d;have Hbw2d:=hhh hbw2d;clear hit2d hbw2d hsz3;go_wp2_with (fail);go_region_with (go_at_call 80;refine (HC.o _ rfl).mono ?_;rintro e W2 ⟨rfl,b2,bb2,k2⟩)
      all_goals
       rename_i W2 b2 bb2 k2;have hit3:=k2.iter Hit2d.o (by omega);have hbw3:=Hbw2d.o.trans bb2;have B2:=hhh b2;clear b2 k2 bb2;go_wp2;go_roundw
       case rel =>
        refine ⟨k + 1,f,acc ++ [92,117,48,48,qI qa,qI qd],by omega,hkf2,Hpn.o,B2.o,hit3,hbw3,by simp;omega,?_⟩;rw [<- Heq.o,Hd.o,HE.o,List.append_assoc]
       case measure =>
        simp only [World.iterPos,hit3,hit];omega
     ·have HE:=hhh (show rS (s[k]'hp)=[s[k]'hp] by rw [rS,hl];simp only [];rw [ifn h32])
      clear hl;go_wp2_with (fail);refine (Tryz.utf8_DecodeRuneInString_ascii _ (s[k]'hp) _ (lW s k hp) ha).mono ?_;rintro e W1 ⟨rfl,rfl⟩;go_wp2_with (fail);refine (qT _ _ _ ha HI.o).mono ?_;rintro e W1 ⟨rfl,rfl⟩;go_wp2_with (fail);refine (wsT w.heap.size acc _ [s[k]'hp] _ HB2.o (by simp;omega) hbw2.size (aKf s k hp)).mono ?_;rintro e W2 ⟨rfl,b2,bb2,k2⟩;have hit3:=k2.iter hit2 (by omega);have B2:=hhh b2;clear b2;go_wp2;go_roundw
      case rel =>
       refine ⟨k + 1,f,acc ++ [s[k]'hp],by omega,hkf2,Hpn.o,B2.o,hit3,hbw2.trans bb2,by simp;omega,?_⟩;rw [<- Heq.o,Hd.o,HE.o,List.append_assoc]
      case measure =>
       simp only [World.iterPos,hit3,hit];omega
   ·have Hd:=hhh (show mM T s (f + 1) k=(s.data.toList.drop k).take (fC T s k) ++ mM T s f (k + (Utf8.decode s k).2) by rw [mM,dif_pos hp,ifn ha])
    obtain ⟨h2,hpn⟩:=HPk.o.2 (by omega);obtain ⟨hfit,_⟩:=vE s k hp (by omega);have hh:=decode_high s k hp (by omega);have hle:=decode_le s k;have hnx:∀ ty,(Instr.next (.pointer (some ⟨w.heap.size + 1,0,none⟩)) true ty).run prog wr=_:=fun ty=>Lib.run_next_any_at wr (w.heap.size + 1) s k ty hit hp
    obtain ⟨n,hn⟩:∃ n,n=(Utf8.decode s k).2:=⟨_,rfl⟩;obtain ⟨c,hc⟩:∃ c,c=(Utf8.decode s k).1:=⟨_,rfl⟩;rw [<- hn] at hnx hfit hh hpn Hd;rw [<- hc] at hnx hh hle;have hit2:=Lib.iterAt_heap wr (w.heap.size + 1) s k (k + n) hit;have hbw2:=Lib.below_iterAt hbw (k:=w.heap.size + 1) (by omega) s (k + n);have HB2:=hhh (HB.o.iterAt hit (k + n));have hT2:=hhh (HT.o.of (hbw2.mono HTz.o));have hsl:∀ wx,(Instr.slice 9 (.string s) (some (.int .i64 (k:Int))) none none).run prog wx = .ok (.string (s.extract k s.size)) wx:=by
     intro wx;rw [run_slice_string_from_if wx _ _ _ _ underlying9,ifp ⟨by omega,by omega⟩];rfl
    have hwid:=aG7 T (s.size - k) (s.get! k).toNat (s.get! (k + 1)).toNat (s.get! (k + 2)).toNat (s.get! (k + 3)).toNat (by omega);have HM:=hhh (uW T s k (by omega));obtain ⟨m,hm⟩:∃ m,m=fC T s k:=⟨_,rfl⟩;rw [show width T (s.size - k) (s.get! k).toNat (s.get! (k + 1)).toNat (s.get! (k + 2)).toNat (s.get! (k + 3)).toNat=m from hm.symm] at hwid;rw [<- hm] at HM Hd;obtain ⟨hm1,hm2,hm4⟩:=hwid;obtain ⟨h128,h1n⟩:=hh;have Hpn:=hhh hpn;have hkf2:s.size < k + n + f:=by omega
    have hsz2:2 <= (s.extract k s.size).size:=by rw [ByteArray.size_extract];omega
    have hf0:=lW s k hp;have ha2:128 <= (s[k]'hp).toNat:=by omega
    clear hn hc hm hpn hkf hPk;go_wp2_with (fail);generalize wr.iterAt (w.heap.size + 1) s (k + n)=W0 at *
    refine (aI4 T _ W0 hT2.o hsz2 _ hf0 ha2).mono ?_;rintro e W1 ⟨⟨r,rfl⟩,b1⟩;rw [HM.o];have hbk1:=hbw2.trans (b1.mono hbw2.size);have hitw1:W1.heap[w.heap.size + 1]? = some (.stringIter s (k + n)):=by
     rw [b1.block _ (Array.getElem?_eq_some_iff.1 hit2).1];exact hit2
    have HB3:=hhh (Bld.below HB2.o b1);have kwr:IntKind.i64.wrap ((k:Int) + (m:Int))=(k:Int) + (m:Int):=by rw [IntKind.wrap_i64];omega
    have hsl2:∀ wx,(Instr.slice 9 (.string s) (some (.int .i64 (k:Int))) (some (.int .i64 ((k:Int) + (m:Int)))) none).run prog wx = .ok (.string (s.extract k (k + m))) wx:=by
     intro wx;rw [run_slice_string wx _ _ _ _ _ _ underlying9 (by omega) (by omega) (by omega)];rfl
    go_wp2_with (fail);refine (Rune.none ⟨#[34,92,8,12,10,13,9]⟩ (c:Int) W1 (by decide) (by decide) (by omega) (by omega)).mono ?_;rintro e W2 ⟨rfl,b2⟩;have hbk2:=hbk1.trans (b2.mono hbk1.size);have hitw2:W2.heap[w.heap.size + 1]? = some (.stringIter s (k + n)):=by
     rw [b2.block _ (Array.getElem?_eq_some_iff.1 hitw1).1];exact hitw1
    have HB4:=hhh (Bld.below HB3.o b2);have htk:(s.extract k (k + m)).data.toList=(s.data.toList.drop k).take m:=by
     rw [ByteArray.data_extract,Array.toList_extract,List.extract_eq_take_drop,show k + m - k=m by omega]
    have hlt:((s.data.toList.drop k).take m).length <= 4:=Nat.le_trans (List.length_take_le _ _) hm4;have Htk:=hhh htk;have c32:¬ (c:Int) < 32:=by omega
    clear htk hbk1 hitw1;go_wp2_with (fail);refine (wsT w.heap.size acc _ _ W2 HB4.o (by omega) hbk2.size Htk.o).mono ?_;rintro e W3 ⟨rfl,b3,bb3,k3⟩;have hit3:=k3.iter hitw2 (by omega);have B3:=hhh b3;have hbk3:=hbk2.trans bb3;clear b3 k3 bb3;go_wp2;go_roundw
    case rel =>
     refine ⟨k + n,f,_,by omega,hkf2,Hpn.o,B3.o,hit3,hbk3,by rw [lla];omega,?_⟩;rw [<- Heq.o,Hd.o,List.append_assoc]
    case measure =>
     simp only [World.iterPos,hit3,hit];omega
  ·have hnx:∀ ty,(Instr.next (.pointer (some ⟨w.heap.size + 1,0,none⟩)) true ty).run prog wr=_:=fun ty=>Lib.run_next_end_at wr (w.heap.size + 1) s k ty hit hp
   have Hd:=hhh (show mM T s f k=[] by
    cases f with
    | zero=>rfl
    | succ f=>rw [mM,dif_neg hp])
   go_wp2_with (fail);refine (Tryz.Builder_String_any_k w.heap.size w.heap.size acc wr HB.o (by omega)).mono ?_;rintro e W2 ⟨rfl,_,b2,_⟩;go_wp2;go_ret;refine ⟨?_,hbw.trans b2⟩;rw [<- Heq.o,Hd.o,List.append_nil];rfl
end Esc
end
end Go.Proofs.YtcjflgmcjfcodaaGreat
