/- Texts of the walk, joined. -/
import Derived.Test.YtfheacchdfdeiaaGreatM04
import Derived.Test.YtfheacchdfdeiaaGreatM06
import Derived.Test.YtfheacchdfdeiaaGreatM07
import Derived.Test.YtfheacchdfdeiaaGreatM09
import Derived.Test.YtfheacchdfdeiaaGreatM10
import Derived.Test.YtfheacchdfdeiaaGreatM12
import Derived.Test.YtfheacchdfdeiaaGreatM14
import Derived.Test.YtfheacchdfdeiaaGreatM22
import Derived.Test.YtfheacchdfdeiaaGreatM25
import Derived.Test.YtfheacchdfdeiaaGreatM26
import Derived.Test.YtfheacchdfdeiaaGreatM27
import Derived.Test.YtfheacchdfdeiaaGreatM30
import Derived.Test.YtfheacchdfdeiaaGreatM31
import Derived.Test.YtfheacchdfdeiaaGreatM34
import Derived.Test.YtfheacchdfdeiaaGreatM35
import Derived.Below
import Derived.BigQuiet
import Derived.ChangeArms
import Derived.Deep.RegionLaw
import Derived.Deep.RegionWith
import Derived.Deep.Slices
import Derived.Lib.Bytealg
import Derived.StillTailTactics
import Derived.WideShapes
import GoSem.ClaimJoined
import GoSem.Claims
set_option maxRecDepth 100000
set_option maxHeartbeats 8000000
namespace Go.Proofs.YtfheacchdfdeiaaGreat
section
open Go.RowKit
open Json (Part)
namespace Pip
section
variable {p:Pin} {b:Nat} {h:Own.Heap} {w:World}
theorem vD {n : Nat} (hi : p.Is b h) (hw : Own.Has w h) (hf : p.Fits n) (hn : n ≤ 1000000) (x : UInt8) :
  Calls Tryz.prog 218 #[.pointer (some ⟨b,0,none⟩),.int .u8 (x.toNat:Int)] w (vU (p.step x) b h w):=by
 obtain ⟨c3,-,-,-,-⟩:=Core.Is.cell hi hw;obtain ⟨c12,-⟩:=hi.yE hw;have TR:=hhh (Own.aA.refl hw);have HI:=hhh hi;rcases Nat.eq_zero_or_pos p.c.e with h0 | h0
 ·have HP0:p.step x=((p.act x).1,(p.act x).2,(p.act x).1.c.e):=by unfold Pin.step;rw [if_neg (by omega)]
  have HA:p.act x=if 0 < p.c.lack then p.on (p.c.byte x) else if p.kind ≠ 0 then p.number x else p.item x:=rfl
  have HL:=hhh (pL hi hw);have H1:=fun (hl:0 < p.c.lack)=>(sD hi hw hf.c hn hl x)
  have H2:=fun (hk:p.kind ≠ 0)=>(xF hi hw hf hn h0 hk x)
  have H4:=hhh (aBk hi hw hf hn x);rw [h0] at c3;generalize p.step x=S at HP0 |-;have fin:∀ A:Pin × List Part,p.act x=A -> ∀ (v:Value) (hv h':Own.Heap) (w':World),Own.Slc 20 (aG A.2) v hv -> A.1.Is b h' -> Own.aA h (hv ++ h') w w' -> vU S b h w (.returned (.tuple #[v,.int .i64 (A.1.c.e:Int)])) w':=by
   intro A hA v hv h' w' s i t;rw [HP0,hA];exact ⟨v,hv,h',rfl,s,i,t⟩
  have Fin:=hhh fin;have HAh:=hhh HA;clear hi hw hf HP0 HA fin hn h0;by_cases hl:0 < p.c.lack
  ·have HP:=hhh (HAh.o.trans (if_pos hl))
   have HC:=hhh (H1 hl);have hld:decide (0 < p.c.lack)=true:=by simpa using hl
   rw [hld] at HL;clear hl hld H1 H2 H4 HAh;go_enter Tryz.func218,Tryz.ntmps218;go_wp2_with (fail);refine HL.o.mono ?_;rintro e w2 ⟨rfl,rfl⟩;go_wp2_with (fail);refine HC.o.mono ?_;rintro e w4 ⟨v,hv,h4,rfl,hs,i4,t4⟩;have HI4:=hhh i4;have HT4:=hhh t4;have HS4:=hhh hs;obtain ⟨d3,-⟩:=Core.Is.cell i4 t4.has.right;clear i4 t4 hs;go_wp2;go_quiet (fail);go_wp2;go_ret2;exact Fin.o _ HP.o _ _ _ _ HS4.o HI4.o (HT4.o.drewN _)
  ·have HPn:=HAh.o.trans (if_neg hl)
   have hld:decide (0 < p.c.lack)=false:=by simpa using hl
   rw [hld] at HL;rcases Nat.eq_zero_or_pos p.kind with hk | hk
   ·have HP:=hhh (HPn.trans (if_neg (by omega)))
    rw [hk] at c12;clear hl hld H1 H2 HAh HPn hk;go_enter Tryz.func218,Tryz.ntmps218;go_wp2_with (fail);refine HL.o.mono ?_;rintro e w2 ⟨rfl,rfl⟩;go_wp2_with (fail);refine H4.o.mono ?_;rintro e w4 ⟨v,hv,h4,rfl,hs,i4,t4⟩;have HI4:=hhh i4;have HT4:=hhh t4;have HS4:=hhh hs;obtain ⟨d3,-⟩:=Core.Is.cell i4 t4.has.right;clear i4 t4 hs;go_wp2;go_quiet (fail);go_wp2;go_ret2;exact Fin.o _ HP.o _ _ _ _ HS4.o HI4.o (HT4.o.drewN _)
   ·have HP:=hhh (HPn.trans (if_pos (by omega)))
    have H2k:=hhh (H2 (by omega));have hkb:((p.kind:Int) != 0)=true:=by rw [bne_iff_ne];omega
    clear hl hld H1 H2 H4 HAh HPn hk;go_enter Tryz.func218,Tryz.ntmps218;go_wp2_with (fail);refine HL.o.mono ?_;rintro e w2 ⟨rfl,rfl⟩;go_wp2_with (fail);refine H2k.o.mono ?_;rintro e w4 ⟨v,hv,h4,rfl,hs,i4,t4⟩;have HI4:=hhh i4;have HT4:=hhh t4;have HS4:=hhh hs;obtain ⟨d3,-⟩:=Core.Is.cell i4 t4.has.right;clear i4 t4 hs;go_wp2;go_quiet (fail);go_wp2;go_ret2;exact Fin.o _ HP.o _ _ _ _ HS4.o HI4.o (HT4.o.drewN _)
 ·have HP:=hhh (show p.step x=(p,[],p.c.e) by unfold Pin.step;rw [if_pos (by omega)])
  have hne:((p.c.e:Int) != 0)=true:=by rw [bne_iff_ne];omega
  clear hi hw hf hn h0;go_enter Tryz.func218,Tryz.ntmps218;go_wp2;go_quiet (fail);go_wp2;go_ret2;rw [HP.o];exact ⟨_,[],h,rfl,.bare _ rfl,HI.o,TR.o.drewN _⟩
end
end Pip
end
section
open Go.RowKit
namespace Pip
theorem aBw (e:Int) (w:World):(convert 92 9 (.slice (some ⟨w.heap.size,0,none⟩) 1 1)).run Tryz.prog (w.alloc (.cells #[.int .u8 (e % 256)] 5)) = .ok (.string ⟨([UInt8.ofNat (e % 256).toNat]:List UInt8).toArray⟩) (w.alloc (.cells #[.int .u8 (e % 256)] 5)):=by
 have h:=lB w w.heap.size rfl [UInt8.ofNat (e % 256).toNat] 1 rfl (by decide);have e1:(u8s [UInt8.ofNat (e % 256).toNat]).toArray = #[.int .u8 (e % 256)]:=by
  simp only [u8s,List.map_cons,List.map_nil,UInt8.toNat_ofNat'];rw [show (((e % 256).toNat % 2 ^ 8:Nat):Int)=e % 256 by omega]
 rw [e1] at h;exact h
theorem xB (e:Int) (w:World):Calls Tryz.prog 84 #[.int .i64 e] w fun r w'=>r = .returned (.string ⟨([UInt8.ofNat (e % 256).toNat]:List UInt8).toArray⟩) /\ Below w.heap.size w w':=by
 have HB:=hhh (fun o=>(Below.refl w.heap.size w).alloc (Nat.le_refl _) o);have hcv:=aBw e w;obtain ⟨S,hS⟩:∃ S:ByteArray,S=⟨([UInt8.ofNat (e % 256).toNat]:List UInt8).toArray⟩:=⟨_,rfl⟩;rw [<- hS] at hcv |-;clear hS;go_enter Tryz.func84,Tryz.ntmps84;go_wp2;go_ret;exact ⟨rfl,HB.o _⟩
theorem yA (a b:List UInt8):(⟨a.toArray⟩:ByteArray) ++ ⟨b.toArray⟩=⟨(a ++ b).toArray⟩:=by
 apply ByteArray.ext;simp
theorem aAm (a:UInt8) (l:List UInt8):(⟨#[a]⟩:ByteArray) ++ ⟨l.toArray⟩=⟨(a :: l).toArray⟩:=yA [a] l
theorem aId (e:Int) (w:World):Calls Tryz.prog 57 #[.int .i64 e] w fun r w'=>r = .returned (.string ⟨([78,UInt8.ofNat (e % 256).toNat]:List UInt8).toArray⟩) /\ Below w.heap.size w w':=by
 have HN:=hhh (xB e w);have HC:=hhh (aAm 78 [UInt8.ofNat (e % 256).toNat]);obtain ⟨S,hS⟩:∃ S:ByteArray,S=⟨([UInt8.ofNat (e % 256).toNat]:List UInt8).toArray⟩:=⟨_,rfl⟩;have hz:S.size=1:=by rw [hS];rfl
 rw [<- hS] at HN HC;clear hS;go_enter Tryz.func57,Tryz.ntmps57;go_wp2_with (fail);refine HN.o.mono ?_;rintro r w1 ⟨rfl,b1⟩;go_wp2;go_ret;exact ⟨by rw [<- HC.o];rfl,b1⟩
theorem xH (e:Int) (w:World):Calls Tryz.prog 60 #[.int .i64 e] w fun r w'=>r = .returned (.string ⟨([255,UInt8.ofNat (e % 256).toNat]:List UInt8).toArray⟩) /\ Below w.heap.size w w':=by
 have HN:=hhh (xB e w);have HC:=hhh (aAm 255 [UInt8.ofNat (e % 256).toNat]);obtain ⟨S,hS⟩:∃ S:ByteArray,S=⟨([UInt8.ofNat (e % 256).toNat]:List UInt8).toArray⟩:=⟨_,rfl⟩;have hz:S.size=1:=by rw [hS];rfl
 rw [<- hS] at HN HC;clear hS;go_enter Tryz.func60,Tryz.ntmps60;go_wp2_with (fail);refine HN.o.mono ?_;rintro r w1 ⟨rfl,b1⟩;go_wp2;go_ret;exact ⟨by rw [<- HC.o];rfl,b1⟩
theorem aGh (w:World):Calls Tryz.prog 59 #[] w fun r w'=>r = .returned (.string ⟨#[75]⟩) /\ w=w':=by
 go_enter Tryz.func59,Tryz.ntmps59;go_wp2;go_ret;exact ⟨rfl,rfl⟩
end Pip
end
section
open Go.RowKit
open Json (Part Wr)
namespace Pip
theorem fY (text:Part -> List UInt8):wY 3 300 (fun _=>True) text 0 (fun _=>True) where
 wok:=vM text
 write hi hf hn hk he l hl hfine hs hw _ _ _:=xN text hi hf hn hk he l hl (fun v hv=>(hfine v hv).1) hs hw
def s18:Setup:=⟨1,3,2,9,0⟩
theorem reads_cbor:Reads 2 where
 step r hk b n h w hi hw hf hn x:=by
  cases r with
  | json p=>cases hk
  | aY p=>exact wH (p:=p) hi hw hf hn x
  | pack p=>cases hk
theorem reads_pack:Reads 3 where
 step r hk b n h w hi hw hf hn x:=by
  cases r with
  | json p=>cases hk
  | aY p=>cases hk
  | pack p=>exact vD (p:=p) hi hw hf hn x
end Pip
end
section
open Go.RowKit
open Json (Part Wr Txt)
namespace Pip
section
variable {ok:Part -> Prop} {text:Part -> List UInt8} {B:Nat} {Tb:World -> Prop}
theorem wC (TX:Txt ok text B Tb):Wok 1 6012 ok text B Tb where
 step W hk wb n h w hi hw hf hn hB hT p _ hp:=by
  cases W with
  | json W=>exact Json.dE (W:=W) hi hw ⟨hf.1,hf.2⟩ hn TX hB hT p hp
  | aY W=>cases hk
  | pack W=>cases hk
 len W hk p _ hp:=by
  cases W with
  | json W=>exact Nat.le_succ_of_le (Json.Wr.dP TX W p hp)
  | aY W=>cases hk
  | pack W=>cases hk
 of:=TX.of
 stage h:=by cases h
 room:=by decide
theorem gC (TX:Txt ok text B Tb):wY 1 6012 ok text B Tb where
 wok:=wC TX
 write hi hf hn hk he l hl hfine hs hw hB hBw hT:=xZ (wC TX) hi hf hn hk he l hl hfine hs hw hB hBw hT
theorem kD (r:Reader):Reads r.kind:=by
 cases r with
 | json p=>exact reads_json
 | aY p=>exact reads_cbor
 | pack p=>exact reads_pack
end
def textN:Part -> List UInt8:=fun _=>[110,117,108,108]
def Pp.aIr (ok:Part -> Bool) (text:Part -> List UInt8):Pp -> List UInt8 -> Bool
 | p,[]=>p.may != 0 || p.input.fin.2.1.all ok
 | p,x :: b=>(p.may != 0 || (p.input.step x).2.1.all ok) && (p.step text x).1.aIr ok text b
end Pip
end
section
namespace Base
def pN : List UInt8 := [65, 66, 67, 68, 69, 70, 71, 72, 73, 74, 75, 76, 77, 78, 79, 80, 81, 82, 83, 84, 85, 86, 87, 88, 89, 90, 97, 98, 99, 100, 101, 102, 103, 104, 105, 106, 107, 108, 109, 110, 111, 112, 113, 114, 115, 116, 117, 118, 119, 120, 121, 122, 48, 49, 50, 51, 52, 53, 54, 55, 56, 57, 45, 95]
def sign (k : Nat) : UInt8 := pN.getD k 0
def wG (v : Nat) : Nat → List UInt8
 | n + 6 => sign (v / 2 ^ n % 64) :: wG v n
 | _ => []
def fG : List UInt8 → Nat → Nat → List UInt8
 | [], v, n => if 0 < n then [sign (v * 2 ^ (6 - n) % 64)] else []
 | b :: l, v, n => wG (v * 256 + b.toNat) (n + 8) ++ fG l ((v * 256 + b.toNat) % 2 ^ ((n + 8) % 6)) ((n + 8) % 6)
def put (l : List UInt8) : List UInt8 := fG l 0 0
theorem aE8 (k : Nat) (h : k < 64) : pN[k]? = some (sign k) := by
 unfold sign
 rw [List.getD_eq_getElem?_getD]
 have : k < pN.length := h
 simp [List.getElem?_eq_getElem this]
theorem tU (b : UInt8) (l : List UInt8) (v : Nat) : fG (b :: l) v 0 = sign ((v * 256 + b.toNat) / 4 % 64) :: fG l ((v * 256 + b.toNat) % 4) 2 := by
 simp [fG, wG]
theorem zY (b : UInt8) (l : List UInt8) (v : Nat) : fG (b :: l) v 2 = sign ((v * 256 + b.toNat) / 16 % 64) :: fG l ((v * 256 + b.toNat) % 16) 4 := by
 simp [fG, wG]
theorem aEp (b : UInt8) (l : List UInt8) (v : Nat) : fG (b :: l) v 4 = sign ((v * 256 + b.toNat) / 64 % 64) :: sign ((v * 256 + b.toNat) % 64) :: fG l 0 0 := by
 simp [fG, wG, Nat.mod_one]
def val (c : UInt8) : Int := Lib.indexByte pN c
def aFc : List UInt8 → Nat → Nat → List UInt8 → Option (List UInt8)
 | [], _, _, out => some out
 | c :: l, v, n, out =>
  if val c < 0 then none
  else if 2 ≤ n then aFc l ((v * 64 + (val c).toNat) % 2 ^ (n - 2)) (n - 2) (out ++ [UInt8.ofNat ((v * 64 + (val c).toNat) / 2 ^ (n - 2))])
  else aFc l ((v * 64 + (val c).toNat) % 2 ^ (n + 6)) (n + 6) out
def get (l : List UInt8) : Option (List UInt8) :=
 match aFc l 0 0 [] with
 | none => none
 | some out => if put out = l then some out else none
def len (n : Int) : Int := if n < 0 ∨ 1000000 < n then 0 else n / 3 * 4 + (n % 3 * 4 + 2) / 3
theorem aJn (a b c : UInt8) (l : List UInt8) : put (a :: b :: c :: l) =
  sign (a.toNat / 4 % 64) :: sign ((a.toNat % 4 * 256 + b.toNat) / 16 % 64) :: sign (((a.toNat % 4 * 256 + b.toNat) % 16 * 256 + c.toNat) / 64 % 64) :: sign (((a.toNat % 4 * 256 + b.toNat) % 16 * 256 + c.toNat) % 64) :: put l := by
 unfold put
 rw [tU, zY, aEp, Nat.zero_mul, Nat.zero_add]
theorem kB : ∀ l : List UInt8, (put l).length = (4 * l.length + 2) / 3
 | [] => rfl
 | [a] => by unfold put; rw [tU]; simp [fG]
 | [a, b] => by unfold put; rw [tU, zY]; simp [fG]
 | a :: b :: c :: l => by
  have := kB l
  rw [aJn]
  simp only [List.length_cons]
  omega
end Base
end
section
open Go.RowKit
namespace Put
def signText:ByteArray:=⟨Base.pN.toArray⟩
theorem jI (y:Nat) (hy:y < 64) (h:y < signText.size):signText[y]'h=Base.sign y:=by
 have h1:Base.pN[y]? = some (Base.sign y):=Base.aE8 y hy;have h2:y < Base.pN.length:=hy;rw [List.getElem?_eq_getElem h2] at h1;have h3:=Option.some.inj h1;rw [<- h3];rfl
theorem wb (B : Nat) (acc : List UInt8) (c : UInt8) (w : World) (h : Lib.IsBuilderF 130 5 B B (Lib.byteCells acc) w) (hlen : acc.length ≤ 10000000) (hBw : B ≤ w.heap.size) (n : Int) (hn : n = c.toNat) :
  Calls Tryz.prog 237 #[.pointer (some ⟨B,0,none⟩),.int .u8 n] w fun e w'=>e = .returned .nilIface /\ Lib.IsBuilderF 130 5 B B (Lib.byteCells (acc ++ [c])) w' /\ Below B w w':=by
 subst hn;refine (Bld.aB3 B B _ _ w h (by rw [Lib.byteCells_length];omega) hBw).mono ?_;rintro e w' ⟨he,h1,h2,_⟩;exact ⟨he,.inr (by rw [Lib.byteCells_append];exact h1),h2⟩
theorem any (s : ByteArray) (w : World) (hs : s.size ≤ 1000000) :
  Calls Tryz.prog 233 #[.string s] w fun e w'=>e = .returned (.string ⟨(Base.put s.data.toList).toArray⟩) /\ Below w.heap.size w w':=by
 go_enter Tryz.func233,Tryz.ntmps233;go_wp2
 go_loopw [4, 5, 9] (fun v n i wr => ∃ (k vn nn : Nat) (acc : List UInt8), i = .int .i64 k ∧ k ≤ s.size ∧ v = .int .i64 vn ∧ n = .int .i64 nn ∧ nn = 2 * (k % 3) ∧ vn < 2 ^ nn ∧
   Lib.IsBuilderF 130 5 w.heap.size w.heap.size (Lib.byteCells acc) wr /\ Below w.heap.size w wr /\ acc.length <= 2 * k /\
   acc ++ Base.fG (s.data.toList.drop k) vn nn=Base.put s.data.toList) (fun _ _ i _=>s.size - (intOf i).toNat)
 case atStart =>
  refine ⟨0,0,0,[],rfl,by omega,rfl,rfl,by omega,by omega,Lib.IsBuilderF.of (Lib.fresh_isBuilder _ _ w),(Below.refl _ w).alloc (Nat.le_refl _) _,by simp,by simp [Base.put]⟩
 case round =>
  obtain ⟨k,vn,nn,acc,rfl,hk,rfl,rfl,hn,hv,hI,hbw,hal,heq⟩:=hrel;by_cases hlt:k < s.size
  ·have hc:=(s[k]'hlt).toNat_lt
   have hv16:vn < 16:=Nat.lt_of_lt_of_le hv (Nat.pow_le_pow_right (n:=2) (by decide) (show nn <= 4 by omega));obtain ⟨x,hx⟩:∃ x:Nat,x=vn * 256 + (s[k]'hlt).toNat:=⟨_,rfl⟩;have hor:=Int64.aJe vn (s[k]'hlt).toNat (by omega) hc;rw [<- hx] at hor;have hx4:x < 4096:=by omega
   have Hx:=hhh hx;have Heq:=hhh heq;have Hn:=hhh hn;have Hv:=hhh hv;clear hx heq hv;have hBw:w.heap.size <= wr.heap.size:=hbw.size;have hdrop:s.data.toList.drop k=s[k]'hlt :: s.data.toList.drop (k + 1):=List.drop_eq_getElem_cons (by simpa using hlt);have Hd:=hhh hdrop;clear hdrop;rcases (show k % 3=0 \/ k % 3=1 \/ k % 3=2 by omega) with h3 | h3 | h3
   ·rw [h3] at hn
    subst hn;have H3:=hhh h3;clear h3;obtain ⟨y,hy⟩:∃ y:Nat,y=x / 4 % 64:=⟨_,rfl⟩;obtain ⟨z,hz⟩:∃ z:Nat,z=x % 4:=⟨_,rfl⟩;have han:bits .and .i64 ((x:Int) / 4) 63=(y:Int):=by
     have:=Int64.sO (x / 4) (by omega);rw [hy,<- this];rfl
    have hma:bits .and .i64 (x:Int) 3=(z:Int):=by
     have:=Int64.tN x 2 (by decide) (by omega);rw [hz,<- show x % 2 ^ 2=x % 4 from rfl,<- this];rfl
    have hy6:y < 64:=by omega
    have Hy:=hhh hy;have Hz:=hhh hz;clear hy hz;go_wp2;refine wp_loop_rounds 3 ?_;rw [rounds_succ];go_wp2_with (fail);refine (wb w.heap.size acc (Base.sign y) wr hI (by omega) hBw _ (congrArg (fun u:UInt8=>(u.toNat:Int)) (jI y hy6 hy6))).mono ?_;rintro e W1 ⟨rfl,h1,b1⟩;go_wp2;rw [rounds_succ];go_wp2;go_roundw
    case rel =>
     refine ⟨k + 1,z,2,acc ++ [Base.sign y],by go_num,by omega,rfl,rfl,by have:=H3.o;omega,by have:=Hz.o;omega,h1,hbw.trans b1,by simp;omega,?_⟩;rw [<- Heq.o,Hd.o,Base.tU,<- Hx.o,<- Hy.o,<- Hz.o];simp
    case measure=>simp [intOf];omega
   ·rw [h3] at hn
    subst hn;have H3:=hhh h3;clear h3;obtain ⟨y,hy⟩:∃ y:Nat,y=x / 16 % 64:=⟨_,rfl⟩;obtain ⟨z,hz⟩:∃ z:Nat,z=x % 16:=⟨_,rfl⟩;have han:bits .and .i64 ((x:Int) / 16) 63=(y:Int):=by
     have:=Int64.sO (x / 16) (by omega);rw [hy,<- this];rfl
    have hma:bits .and .i64 (x:Int) 15=(z:Int):=by
     have:=Int64.tN x 4 (by decide) (by omega);rw [hz,<- show x % 2 ^ 4=x % 16 from rfl,<- this];rfl
    have hy6:y < 64:=by omega
    have Hy:=hhh hy;have Hz:=hhh hz;clear hy hz;go_wp2;refine wp_loop_rounds 3 ?_;rw [rounds_succ];go_wp2_with (fail);refine (wb w.heap.size acc (Base.sign y) wr hI (by omega) hBw _ (congrArg (fun u:UInt8=>(u.toNat:Int)) (jI y hy6 hy6))).mono ?_;rintro e W1 ⟨rfl,h1,b1⟩;go_wp2;rw [rounds_succ];go_wp2;go_roundw
    case rel =>
     refine ⟨k + 1,z,4,acc ++ [Base.sign y],by go_num,by omega,rfl,rfl,by have:=H3.o;omega,by have:=Hz.o;omega,h1,hbw.trans b1,by simp;omega,?_⟩;rw [<- Heq.o,Hd.o,Base.zY,<- Hx.o,<- Hy.o,<- Hz.o];simp
    case measure=>simp [intOf];omega
   ·rw [h3] at hn
    subst hn;have H3:=hhh h3;clear h3;obtain ⟨y,hy⟩:∃ y:Nat,y=x / 64 % 64:=⟨_,rfl⟩;obtain ⟨y2,hy2⟩:∃ y:Nat,y=x % 64:=⟨_,rfl⟩;have han:bits .and .i64 ((x:Int) / 64) 63=(y:Int):=by
     have:=Int64.sO (x / 64) (by omega);rw [hy,<- this];rfl
    have han2:bits .and .i64 (x:Int) 63=(y2:Int):=by
     rw [hy2,<- Int64.sO x (by omega)]
    have hma:bits .and .i64 (x:Int) 0=0:=by
     have:=Int64.tN x 0 (by decide) (by omega);simpa [Nat.mod_one] using this
    have hy6:y < 64:=by omega
    have hy26:y2 < 64:=by omega
    have Hy:=hhh hy;have Hy2:=hhh hy2;clear hy hy2;go_wp2;refine wp_loop_rounds 3 ?_;rw [rounds_succ];go_wp2_with (fail);refine (wb w.heap.size acc (Base.sign y) wr hI (by omega) hBw _ (congrArg (fun u:UInt8=>(u.toNat:Int)) (jI y hy6 hy6))).mono ?_;rintro e W1 ⟨rfl,h1,b1⟩;go_wp2;rw [rounds_succ];go_wp2_with (fail);refine (wb w.heap.size _ (Base.sign y2) W1 h1 (by rw [List.length_append];show acc.length + 1 <= _;omega) (by have:=b1.size;omega) _ (congrArg (fun u:UInt8=>(u.toNat:Int)) (jI y2 hy26 hy26))).mono ?_;rintro e W2 ⟨rfl,h2,b2⟩;go_wp2;rw [rounds_succ];go_wp2;go_roundw
    case rel =>
     refine ⟨k + 1,0,0,acc ++ [Base.sign y] ++ [Base.sign y2],by go_num,by omega,rfl,rfl,by have:=H3.o;omega,by omega,h2,(hbw.trans b1).trans b2,by simp;omega,?_⟩;rw [<- Heq.o,Hd.o,Base.aEp,<- Hx.o,<- Hy.o,<- Hy2.o];simp
    case measure=>simp [intOf];omega
  ·have hdrop:s.data.toList.drop k=[]:=by
    apply List.drop_eq_nil_of_le;have:s.data.toList.length=s.size:=Array.length_toList;omega
   rw [hdrop] at heq;have hv16:vn < 16:=Nat.lt_of_lt_of_le hv (Nat.pow_le_pow_right (n:=2) (by decide) (show nn <= 4 by omega));have Heq:=hhh heq;have Hv:=hhh hv;clear heq hdrop hv;have hBw:w.heap.size <= wr.heap.size:=hbw.size;rcases (show k % 3=0 \/ k % 3=1 \/ k % 3=2 by omega) with h3 | h3 | h3
   ·rw [h3] at hn
    subst hn;clear h3;go_wp2_with (fail);refine (Tryz.Builder_String_any_k w.heap.size w.heap.size _ _ hI (by omega)).mono ?_;rintro e W2 ⟨rfl,_,b2,_⟩;go_wp2;go_ret;refine ⟨?_,hbw.trans b2⟩;rw [<- Heq.o];simp [Base.fG]
   ·rw [h3] at hn
    subst hn;clear h3;obtain ⟨y,hy⟩:∃ y:Nat,y=vn * 16 % 64:=⟨_,rfl⟩;have hvm:vn < 4:=Hv.o;have han:bits .and .i64 ((vn:Int) * 16) 63=(y:Int):=by
     have:=Int64.sO (vn * 16) (by omega);rw [hy,<- this];rfl
    have hy6:y < 64:=by omega
    have Hy:=hhh hy;clear hy;go_wp2_with (fail);refine (wb w.heap.size acc (Base.sign y) wr hI (by omega) hBw _ (congrArg (fun u:UInt8=>(u.toNat:Int)) (jI y hy6 hy6))).mono ?_;rintro e W1 ⟨rfl,h1,b1⟩;go_wp2_with (fail);refine (Tryz.Builder_String_any_k w.heap.size w.heap.size _ _ h1 (by have:=b1.size;omega)).mono ?_;rintro e W2 ⟨rfl,_,b2,_⟩;go_wp2;go_ret;refine ⟨?_,(hbw.trans b1).trans b2⟩;rw [<- Heq.o];simp [Base.fG,Hy.o]
   ·rw [h3] at hn
    subst hn;clear h3;obtain ⟨y,hy⟩:∃ y:Nat,y=vn * 4 % 64:=⟨_,rfl⟩;have hvm:vn < 16:=Hv.o;have han:bits .and .i64 ((vn:Int) * 4) 63=(y:Int):=by
     have:=Int64.sO (vn * 4) (by omega);rw [hy,<- this];rfl
    have hy6:y < 64:=by omega
    have Hy:=hhh hy;clear hy;go_wp2_with (fail);refine (wb w.heap.size acc (Base.sign y) wr hI (by omega) hBw _ (congrArg (fun u:UInt8=>(u.toNat:Int)) (jI y hy6 hy6))).mono ?_;rintro e W1 ⟨rfl,h1,b1⟩;go_wp2_with (fail);refine (Tryz.Builder_String_any_k w.heap.size w.heap.size _ _ h1 (by have:=b1.size;omega)).mono ?_;rintro e W2 ⟨rfl,_,b2,_⟩;go_wp2;go_ret;refine ⟨?_,(hbw.trans b1).trans b2⟩;rw [<- Heq.o];simp [Base.fG,Hy.o]
end Put
end
section
open Go.RowKit
open Json (Part Wr Txt)
namespace Pip
open Esc (bI bS)
theorem aAz (l:List UInt8):((⟨#[34]⟩:ByteArray) ++ ⟨l.toArray⟩ ++ ⟨#[34]⟩)=⟨(34 :: (l ++ [34])).toArray⟩:=by
 apply ByteArray.ext;simp
def okT:Part -> Prop
 | .whole _ m=>m < 18446744073709551616
 | .word s=>s.size <= 1000 /\ Esc.Val s.data.toList
 | .cM s=>s.size <= 1000
 | .other _=>False
 | _=>True
def aU (T:bI):Part -> List UInt8
 | .bool true=>[116,114,117,101]
 | .bool false=>[102,97,108,115,101]
 | .whole n m=>Fmt.dec T n m
 | .word s=>34 :: (Esc.gQ T s ++ [34])
 | .cM s=>34 :: (Base.put s.data.toList ++ [34])
 | _=>[110,117,108,108]
theorem jU (T:bI) (s:ByteArray):(Esc.gQ T s).length <= 6 * (s.size + 1):=Esc.jA T s (s.size + 1) 0
theorem aDh (T : bI) (p : Part) (hp : okT p) (w : World) (hT : bS T w) :
  Calls Tryz.prog 230 #[p.val] w fun r w'=>r = .returned (.string ⟨(aU T p).toArray⟩) /\ Below w.heap.size w w':=by
 have B0:=hhh (fun o=>(Below.refl w.heap.size w).alloc (Nat.le_refl _) o);have HT:=hhh (fun (o:Obj)=>hT.of ((B0.o o).mono hT.size));have bel:∀ {W:World} {o:Obj},Below (w.alloc o).heap.size (w.alloc o) W -> Below w.heap.size w W:=fun {W o} b=>(B0.o o).trans (b.mono (by rw [Json.size_alloc];omega))
 have Bel:=@hhh _ @bel;clear bel hT;have a1:=Json.asBool p;have a2:=Json.lL p;have a3:=Json.hJ p;have a4:=Json.nO p;obtain ⟨V,hV⟩:∃ V,V=p.val:=⟨_,rfl⟩;rw [<- hV] at a1 a2 a3 a4 |-;clear hV
 cases p with
 | whole n m =>
  simp only [Json.Part.isBool,Json.Part.inBool,Json.Part.isWhole,Json.Part.inWhole,Json.Part.isWord,Json.Part.inWord,Json.Part.isBlob,Json.Part.inBlob] at a1 a2 a3 a4;have HP:=hhh (show m < 18446744073709551616 from hp);clear hp;go_enter Tryz.func230,Tryz.ntmps230;go_wp2_with (fail);refine (Fmt.aB0 T n m HP.o _ (HT.o _)).mono ?_;rintro e W ⟨rfl,b⟩;go_wp2;go_ret;exact ⟨rfl,Bel.o b⟩
 | word s =>
  simp only [Json.Part.isBool,Json.Part.inBool,Json.Part.isWhole,Json.Part.inWhole,Json.Part.isWord,Json.Part.inWord,Json.Part.isBlob,Json.Part.inBlob] at a1 a2 a3 a4;have hs:s.size <= 1000:=hp.1;have hv:=hhh hp.2.sound;have hq:=hhh (aAz (Esc.gQ T s));have HF:=hhh (fun W (t:bS T W)=>Esc.zI T s W (by omega) t hv.o);have hsz:(⟨(Esc.gQ T s).toArray⟩:ByteArray).size <= 6006:=by
   rw [show (⟨(Esc.gQ T s).toArray⟩:ByteArray).size=(Esc.gQ T s).length from List.size_toArray ..];have:=jU T s;omega
  obtain ⟨S,hS⟩:∃ S:ByteArray,S=⟨(Esc.gQ T s).toArray⟩:=⟨_,rfl⟩;rw [<- hS] at hsz HF hq;clear hS hs hp;go_enter Tryz.func230,Tryz.ntmps230;go_wp2_with (fail);refine (HF.o _ (HT.o _)).mono ?_;rintro e W ⟨rfl,b⟩;go_wp2;go_ret;exact ⟨Own.aM hq.o,Bel.o b⟩
 | cM s =>
  simp only [Json.Part.isBool,Json.Part.inBool,Json.Part.isWhole,Json.Part.inWhole,Json.Part.isWord,Json.Part.inWord,Json.Part.isBlob,Json.Part.inBlob] at a1 a2 a3 a4;have hs:s.size <= 1000:=hp;have hq:=hhh (aAz (Base.put s.data.toList));have HF:=hhh (fun W=>Put.any s W (by omega));have hsz:(⟨(Base.put s.data.toList).toArray⟩:ByteArray).size <= 6000:=by
   rw [show (⟨(Base.put s.data.toList).toArray⟩:ByteArray).size=(Base.put s.data.toList).length from List.size_toArray ..];have:=Base.kB s.data.toList;have hl:s.data.toList.length=s.size:=Array.length_toList;omega
  obtain ⟨S,hS⟩:∃ S:ByteArray,S=⟨(Base.put s.data.toList).toArray⟩:=⟨_,rfl⟩;rw [<- hS] at hsz HF hq;clear hS hs hp;go_enter Tryz.func230,Tryz.ntmps230;go_wp2_with (fail);refine (HF.o _).mono ?_;rintro e W ⟨rfl,b⟩;go_wp2;go_ret;exact ⟨Own.aM hq.o,Bel.o b⟩
 | bool y =>
  simp only [Json.Part.isBool,Json.Part.inBool,Json.Part.isWhole,Json.Part.inWhole,Json.Part.isWord,Json.Part.inWord,Json.Part.isBlob,Json.Part.inBlob] at a1 a2 a3 a4;clear hp
  cases y
  all_goals go_enter Tryz.func230,Tryz.ntmps230
  all_goals go_wp2
  all_goals go_ret
  all_goals exact ⟨rfl,Below.refl _ _⟩
 | _ =>
  simp only [Json.Part.isBool,Json.Part.inBool,Json.Part.isWhole,Json.Part.inWhole,Json.Part.isWord,Json.Part.inWord,Json.Part.isBlob,Json.Part.inBlob] at a1 a2 a3 a4;clear hp;go_enter Tryz.func230,Tryz.ntmps230;go_wp2;go_ret;exact ⟨rfl,B0.o _⟩
theorem lE (T:bI):Txt okT (aU T) Esc.tabsEnd (bS T) where
 len p hp:=by
  cases p with
  | bool b=>cases b <;> simp [aU]
  | whole n m=>have:=Fmt.aAb T n m hp;show (Fmt.dec T n m).length <= _;omega
  | word s =>
   have:=jU T s;have:s.size <= 1000:=hp.1;show (34 :: (Esc.gQ T s ++ [34])).length <= _;simp only [List.length_cons,List.length_append,List.length_nil];omega
  | cM s =>
   have:=Base.kB s.data.toList;have hs:s.data.toList.length=s.size:=Array.length_toList;have:s.size <= 1000:=hp;show (34 :: (Base.put s.data.toList ++ [34])).length <= _;simp only [List.length_cons,List.length_append,List.length_nil];omega
  | _=>simp [aU]
 any p hp u hT:=aDh T p hp u hT
 of u v hT b:=hT.of b
end Pip
end
section
open Go.RowKit
open Json (Part Wr Txt)
namespace Pip
open Esc (bI bS)
theorem okT.of {v:Part} (h:Fine v) (hw:WV v):okT v:=by
 cases v with
 | whole n m=>exact h.small
 | word s=>exact ⟨h.small,hw s rfl⟩
 | cM s=>exact h.small
 | other b=>have:=h.may;cases this
 | _=>trivial
theorem Reader.V.new (f:Int) (d:Nat):(Reader.new f d).V:=by
 unfold Reader.new;split
 ·exact ⟨fun _ h=>absurd (show (0:Nat)=1 from h) (by decide)⟩
 ·split
  ·exact yG.new d
  ·exact mY.new d
theorem Reader.V.step {r:Reader} (h:r.V) (b:UInt8):(r.step b).1.V /\ ∀ v ∈ (r.step b).2.1,WV v:=by
 cases r with
 | json p=>exact Jin.aGz h b
 | aY p =>
  show yG (p.step b).1 /\ ∀ v ∈ (p.step b).2.1,WV v;unfold Cin.step;split
  ·exact ⟨h,fun _ hv=>by cases hv⟩
  ·rename_i k
   have o:=mA.act h (by simpa using k) b (Hd.wX b) (fun hb=>Hd.pK p.h b hb) (fun h0=>Hd.nU p.h b h0);exact ⟨o.p,o.told⟩
 | pack p =>
  show mY (p.step b).1 /\ ∀ v ∈ (p.step b).2.1,WV v;unfold Pin.step;split
  ·exact ⟨h,fun _ hv=>by cases hv⟩
  ·rename_i k
   have o:=gE.act h (by simpa using k) b;exact ⟨o.p,o.told⟩
theorem Reader.V.fin {r:Reader} (h:r.V):∀ v ∈ r.fin.2.1,WV v:=by
 cases r with
 | json p=>exact Jin.aH4 h
 | aY p=>exact fun _ hv=>by cases hv
 | pack p=>exact fun _ hv=>by cases hv
theorem Pp.aIb (text:Part -> List UInt8) {p:Pp} (h:p.input.V) (x:UInt8):(p.step text x).1.input.V:=by
 unfold Pp.step;split
 ·exact h
 ·rw [Pp.mT]
  exact (h.step x).1
theorem Pp.aAq (text:Part -> List UInt8):∀ (l:List UInt8) {p:Pp},p.input.V -> (p.all text l).1.input.V
 | [],_,h=>h
 | x :: l,_,h=>Pp.aAq text l (Pp.aIb text h x)
theorem Pp.aAt {p:Pp} {n:Nat} (hf:p.Fits n) (h:p.input.V) (x:UInt8):∀ v ∈ (p.input.step x).2.1,okT v :=
 fun v hv=>.of ((Reader.eJ hf.input x).fine v hv) ((h.step x).2 v hv)
theorem Pp.aEh {p:Pp} {n:Nat} (hf:p.Fits n) (h:p.input.V):∀ v ∈ p.input.fin.2.1,okT v :=
 fun v hv=>.of ((Reader.pW hf.input).fine v hv) (h.fin v hv)
theorem Pp.vR (text:Part -> List UInt8) (s:Setup) (hr:right s=true) (b:List UInt8):(Pp.new s).Told okT text b :=
 ⟨fun j _ _=>Pp.aAt (Pp.Fits.all text (b.take j) (Pp.Fits.new s hr)) (Pp.aAq text _ (Reader.V.new _ _)) _,
  fun _=>Pp.aEh (Pp.Fits.all text b (Pp.Fits.new s hr)) (Pp.aAq text _ (Reader.V.new _ _))⟩
end Pip
end
section
namespace Pip
open Json (Part Wr)
theorem Jin.aG0 (p:Jin) (t:Tok):(p.value t).1.depth=p.depth:=by
 unfold Jin.value
 repeat' split
 all_goals rfl
theorem Jin.aAw (p:Jin) (t:Tok):(p.token t).1.depth=p.depth:=by
 unfold Jin.token
 repeat' split
 all_goals first | rfl | exact Jin.aG0 _ _
theorem Jin.parts_d:∀ (l:List Tok) (p:Jin) (e:Nat),(p.parts l e).1.depth=p.depth
 | [],_,_=>rfl
 | t :: l,p,e=>by
  unfold Jin.parts
  split
  ·exact Jin.aAw p t
  ·exact (Jin.parts_d l _ e).trans (Jin.aAw p t)
theorem Jin.kL (p:Jin) (b:UInt8):(p.step b).1.depth=p.depth:=by
 unfold Jin.step;split
 ·rfl
 ·exact Jin.parts_d _ _ _
theorem Core.uG (c:Core) (m:Bool) (n:Int):(c.begin m n).1.depth=c.depth:=by
 unfold Core.begin;split <;> rfl
theorem Core.aG8 (c:Core):c.break.1.depth=c.depth:=by
 unfold Core.break
 repeat' split
 all_goals rfl
theorem Core.oR (c:Core) (w:Bool) (n:Nat):(c.length w n).1.depth=c.depth:=by
 unfold Core.length
 dsimp only
 repeat' split
 all_goals rfl
theorem Core.aD0 (c:Core) (b:UInt8):(c.byte b).1.depth=c.depth:=by
 unfold Core.byte
 repeat' split
 all_goals rfl
theorem Cin.nW (p:Cin) (m v:Nat) (o:Bool):(p.behind m v o).1.c.depth=p.c.depth:=by
 unfold Cin.behind
 repeat' split
 all_goals first | rfl | exact Core.oR _ _ _ | exact Core.uG _ _ _
theorem Cin.yQ (p:Cin) (b:UInt8):(p.head b).1.c.depth=p.c.depth:=by
 unfold Cin.head
 dsimp only
 repeat' split
 all_goals first | rfl | exact Cin.nW _ _ _ _
theorem Cin.aFs (p:Cin) (n:Nat):(p.simple n).1.c.depth=p.c.depth:=by
 unfold Cin.simple
 repeat' split
 all_goals rfl
theorem Cin.kL (p:Cin) (b:UInt8):(p.step b).1.c.depth=p.c.depth:=by
 unfold Cin.step;split
 ·rfl
 ·show (p.act b).1.c.depth=_
  unfold Cin.act;split
  ·exact Core.aD0 _ _
  ·split
   ·exact Cin.yQ _ _
   ·split
    ·unfold Cin.chunk
     split
     ·rfl
     ·by_cases k:b.toNat / 32 ≠ (if p.c.word then 3 else 2) \/ b.toNat % 32=31
      ·rw [if_pos k];rfl
      ·rw [if_neg k];exact Cin.yQ _ _
    ·unfold Cin.item
     dsimp only
     repeat' split
     all_goals first | rfl | exact Core.aG8 _ | exact Cin.aFs _ _ | exact Cin.yQ _ _
theorem Pin.aIy {c:Prop} [Decidable c] {a b:Pin × List Part} {d:Nat} (ha:a.1.c.depth=d) (hb:b.1.c.depth=d):(if c then a else b).1.c.depth=d:=by
 split
 ·exact ha
 ·exact hb
theorem Pin.aAv (p:Pin) (m:Bool) (n:Nat):(p.count m n).1.c.depth=p.c.depth:=by
 unfold Pin.count;split
 ·rfl
 ·exact Core.uG _ _ _
theorem Pin.nW (p:Pin) (k v:Nat):(p.behind k v).1.c.depth=p.c.depth:=by
 unfold Pin.behind
 repeat' split
 all_goals first | rfl | exact Core.oR _ _ _ | exact Pin.aAv _ _ _
theorem Pin.kL (p:Pin) (b:UInt8):(p.step b).1.c.depth=p.c.depth:=by
 unfold Pin.step;split
 ·rfl
 ·show (p.act b).1.c.depth=_
  unfold Pin.act;split
  ·exact Core.aD0 _ _
  ·split
   ·unfold Pin.number
    dsimp only
    split
    ·rfl
    ·exact Pin.nW _ _ _
   ·unfold Pin.item Pin.long
    dsimp only
    repeat' (refine Pin.aIy ?_ ?_)
    all_goals first | rfl | exact Core.oR _ _ _ | exact Pin.aAv _ _ _ | exact Core.uG _ _ _
theorem Reader.kL (r:Reader) (b:UInt8):(r.step b).1.depth=r.depth:=by
 cases r with
 | json p=>exact Jin.kL p b
 | aY p=>exact Cin.kL p b
 | pack p=>exact Pin.kL p b
theorem Reader.Fits.held {r:Reader} {n:Nat} (h:r.Fits n):r.held <= 200 + r.depth:=by
 cases r with
 | json p=>exact Jin.Fits.held h
 | aY p=>exact Core.Fits.held (show p.Fits n from h).c
 | pack p=>exact Core.Fits.held (show p.Fits n from h).c
theorem Stg.pE (s:Stg) (v:Part):(s.hold v).1.limit <= s.limit:=by
 unfold Stg.hold;split
 ·exact Nat.zero_le _
 ·exact Nat.le_refl _
theorem Stg.nT (s:Stg) (v:Part):(s.step v).1.limit <= s.limit:=by
 unfold Stg.step;split
 ·exact Nat.le_refl _
 ·split
  ·exact Nat.le_refl _
  ·split
   ·exact Nat.le_refl _
   ·split
    ·unfold Stg.close
     split
     ·exact Nat.le_refl _
     ·dsimp only
      split
      ·exact Stg.pE _ _
      ·exact Nat.le_refl _
    ·exact Stg.pE _ _
def Pp.eR (p:Pp) (g:Nat):Prop:=∀ s,p.hold=some s -> s.limit <= g
theorem Pp.eR.one {p:Pp} {g:Nat} (h:p.eR g) (text:Part -> List UInt8) (v:Part):(p.one text v).1.eR g:=by
 unfold Pp.one;split
 ·exact fun s hs=>by cases hs
 ·rename_i s hs
  have:=h s hs;split
  ·intro x hx;cases hx;exact Nat.le_trans (Stg.nT s v) this
  ·intro x hx;cases hx;exact Nat.le_trans (Stg.nT s v) this
theorem Pp.eR.write (text:Part -> List UInt8) {g:Nat}:∀ (l:List Part) {p:Pp} (e:Nat),p.eR g -> (p.write text l e).1.eR g
 | [],_,_,h=>h
 | v :: l,p,e,h=>by
  unfold Pp.write
  split
  ·exact h.one text v
  ·exact Pp.eR.write text l e (h.one text v)
theorem Pp.eR.step {p:Pp} {g:Nat} (h:p.eR g) (text:Part -> List UInt8) (x:UInt8):(p.step text x).1.eR g /\ (p.step text x).1.input.depth=p.input.depth:=by
 unfold Pp.step;split
 ·exact ⟨h,rfl⟩
 ·refine ⟨Pp.eR.write text _ _ h,?_⟩
  rw [Pp.mT];exact Reader.kL _ _
theorem Pp.eR.all (text:Part -> List UInt8) {g:Nat}:∀ (l:List UInt8) {p:Pp},p.eR g -> (p.all text l).1.eR g /\ (p.all text l).1.input.depth=p.input.depth
 | [],_,h=>⟨h,rfl⟩
 | x :: l,p,h=>by
  have h1:=h.step text x
  have h2:=Pp.eR.all text l h1.1
  exact ⟨h2.1,h2.2.trans h1.2⟩
theorem Pp.rP (s:Setup):(Pp.new s).eR s.stage.toNat:=by
 intro x hx;unfold Pp.new at hx
 dsimp only at hx
 split at hx
 ·cases hx;exact Nat.le_refl _
 ·cases hx
theorem Pp.rX (s:Setup):(Pp.new s).input.depth=s.depth.toNat:=by
 show (Reader.new s.from_ s.depth.toNat).depth=_;unfold Reader.new;split
 ·rfl
 ·split <;> rfl
theorem Pp.aGt (text:Part -> List UInt8) (s:Setup) (hr:right s=true) (l:List UInt8):((Pp.new s).all text l).1.held <= 200 + s.stage.toNat + s.depth.toNat /\ (((Pp.new s).all text l).1.may ≠ 0 -> ((Pp.new s).all text l).1.held=0):=by
 have hf:=Pp.Fits.all text l (Pp.Fits.new s hr);have hu:=Pp.eR.all text l (Pp.rP s);rw [Pp.rX] at hu;generalize ((Pp.new s).all text l).1=p at hf hu |-;have hi:=hf.input.held;rw [hu.2] at hi;unfold Pp.held;refine ⟨?_,fun h=>if_pos h⟩;split
 ·exact Nat.zero_le _
 ·cases hh:p.hold with
  | none=>dsimp only;omega
  | some x =>
   have h1:=hu.1 x hh;have h2:=(hf.hold x hh).size
   dsimp only
   omega
end Pip
end
section
open Go.RowKit
namespace Esc
theorem oG {P : Program} {w : World} {g n : Nat} {t : TypeId} {zero : Array Value} {k : IntKind} {ts : List TypeId} (h : w.ShapedOpen P) (hg : g < P.globals.size)
  (h0:((begin P (fun _ _=>0) default).world.heap[g]?).bind Obj.row? = some (zero,t)) (hz:zero.size=n) (hb:P.buildable t=true) (hc:P.cellTypes P.depth t=some ts)
  (hu:∀ u ∈ ts,P.underlying u=some (.int k)) (i:Nat) (hi:i < n):∃ m,w.cell? ⟨g,i,none⟩=some (.int k m) /\ k.min <= m /\ m <= k.max:=by
 obtain ⟨cs,hh,hs,hr⟩:=h.1 g zero t hg h0;obtain ⟨ts',hts,_,hall⟩:=hr hb;rw [hc] at hts
 cases hts
 have h1:i < cs.size:=by omega
 obtain ⟨u,hu',hok⟩:=hall i cs[i] (by simp [h1]);have hm:u ∈ ts:=List.mem_of_getElem? hu';have hcell:w.cell? ⟨g,i,none⟩=some cs[i]:=by simp [World.cell?,hh,h1]
 rw [hcell];unfold Cell.ok at hok;rw [hu u hm] at hok
 cases hv:cs[i] <;> rw [hv] at hok <;> simp at hok
 case int k' m =>
  obtain ⟨rfl,h2⟩:=hok;exact ⟨m,rfl,h2⟩
theorem aD3 (w:World) (h:w.ShapedOpen Tryz.prog) (i:Nat) (hi:i < 256):∃ m,w.cell? ⟨1,i,none⟩=some (.int .u8 m) /\ (IntKind.u8).min <= m /\ m <= (IntKind.u8).max :=
 oG (t:=318) (zero:=Array.replicate 256 (.int .u8 0)) (ts:=List.replicate 256 5) h (of_decide_eq_true (by kernel_rfl)) (by kernel_rfl) (by kernel_rfl) (by kernel_rfl) (by kernel_rfl)
  (fun u hu=>by rw [List.eq_of_mem_replicate hu];exact Tryz.underlying5) i hi
theorem aCx (w:World) (h:w.ShapedOpen Tryz.prog) (i:Nat) (hi:i < 32):∃ m,w.cell? ⟨2,i,none⟩=some (.int .u8 m) /\ (IntKind.u8).min <= m /\ m <= (IntKind.u8).max :=
 oG (t:=321) (zero:=Array.replicate 32 (.int .u8 0)) (ts:=List.replicate 32 5) h (of_decide_eq_true (by kernel_rfl)) (by kernel_rfl) (by kernel_rfl) (by kernel_rfl) (by kernel_rfl)
  (fun u hu=>by rw [List.eq_of_mem_replicate hu];exact Tryz.underlying5) i hi
theorem aIh (w:World) (h:w.ShapedOpen Tryz.prog) (i:Nat) (hi:i < 20):∃ m,w.cell? ⟨3,i,none⟩=some (.int .u64 m) /\ (IntKind.u64).min <= m /\ m <= (IntKind.u64).max :=
 oG (t:=323) (zero:=Array.replicate 20 (.int .u64 0)) (ts:=List.replicate 20 94) h (of_decide_eq_true (by kernel_rfl)) (by kernel_rfl) (by kernel_rfl) (by kernel_rfl) (by kernel_rfl)
  (fun u hu=>by rw [List.eq_of_mem_replicate hu];exact Tryz.underlying94) i hi
theorem aEt {m:Int} (h:(IntKind.u8).min <= m /\ m <= (IntKind.u8).max):∃ n:Nat,m=(n:Int) /\ n < 256:=by
 have h1:(0:Int) <= m:=h.1;have h2:m <= (255:Int):=h.2;exact ⟨m.toNat,by omega,by omega⟩
theorem aGw {m:Int} (h:(IntKind.u64).min <= m /\ m <= (IntKind.u64).max):∃ n:Nat,m=(n:Int) /\ n < 18446744073709551616:=by
 have h1:(0:Int) <= m:=h.1;have h2:m <= (18446744073709551615:Int):=h.2;exact ⟨m.toNat,by omega,by omega⟩
theorem pick {n B:Nat} {f:Nat -> Nat -> Prop} (h:∀ i,i < n -> ∃ m,f i m /\ m < B):∃ g:Nat -> Nat,∀ i,i < n -> f i (g i) /\ g i < B:=by
 refine ⟨fun i=>if h':i < n then Classical.choose (h i h') else 0,fun i hi=>?_⟩
 dsimp only
 rw [dif_pos hi];exact Classical.choose_spec (h i hi)
theorem weigh_cons {H : Type} {P : Program} {t : TypeId} {ts : List TypeId} {d : DataW H} {ds : List (DataW H)} (h : (DataW.weightsEach P (t :: ts) (d :: ds)).all (· ≤ reachBytes) = true) :
  (d.weights P t).all (· <= reachBytes)=true /\ (DataW.weightsEach P ts ds).all (· <= reachBytes)=true:=by
 rw [DataW.weightsEach,List.all_append,Bool.and_eq_true] at h;exact h
theorem weigh_string {H:Type} {P:Program} {t:TypeId} {s:ByteArray} (h:((DataW.lit (.string s.data.toList):DataW H).weights P t).all (· <= reachBytes)=true):s.size <= 140737488355327:=by
 rw [DataW.weights] at h;simp only [List.all_cons,List.all_nil,Bool.and_true,decide_eq_true_eq,Array.length_toList] at h;have:s.data.size <= 140737488351232:=h;exact Nat.le_trans this (by decide)
theorem tabs_of (w:World) (h:w.ShapedOpen Tryz.prog):∃ T,bS T w:=by
 obtain ⟨f,hf⟩:=pick (n:=256) (B:=256) (f:=fun i m=>w.cell? ⟨1,i,none⟩=some (.int .u8 (m:Int))) (fun i hi=>by
  obtain ⟨m,hm,hb⟩:=aD3 w h i hi;obtain ⟨n,rfl,hn⟩:=aEt hb
  exact ⟨n,hm,hn⟩)
 obtain ⟨a,ha⟩:=pick (n:=32) (B:=256) (f:=fun i m=>w.cell? ⟨2,i,none⟩=some (.int .u8 (m:Int))) (fun i hi=>by
  obtain ⟨m,hm,hb⟩:=aCx w h i hi;obtain ⟨n,rfl,hn⟩:=aEt hb
  exact ⟨n,hm,hn⟩)
 obtain ⟨p,hp⟩:=pick (n:=20) (B:=18446744073709551616) (f:=fun i m=>w.cell? ⟨3,i,none⟩=some (.int .u64 (m:Int))) (fun i hi=>by
  obtain ⟨m,hm,hb⟩:=aIh w h i hi;obtain ⟨n,rfl,hn⟩:=aGw hb
  exact ⟨n,hm,hn⟩)
 refine ⟨⟨f,fun i=>a (i * 2),fun i=>a (i * 2 + 1),p⟩,fun c hc=>(hf c hc).1,fun i hi=>⟨(ha (i * 2) (by omega)).1,(ha (i * 2 + 1) (by omega)).1⟩,fun c hc=>(hp c hc).1,?_⟩;exact ⟨fun c hc=>(hf c hc).2,fun c hc=>(ha (c * 2) (by omega)).2,fun c hc=>(ha (c * 2 + 1) (by omega)).2,fun c hc=>(hp c hc).2⟩
end Esc
end
section
open Go.RowKit
open Json (Part Wr Txt)
namespace Pip
open Esc (bI bS)
theorem aBj (T : bI) {p : Pp} {b n : Nat} {h : Own.Heap} {w : World} (hi : p.Is b h) (hw : Own.Has w h) (hf : p.Fits n) (hn : n ≤ 80000) (hv : p.input.V) (x : UInt8) (hB : ∀ x ∈ Own.blocks h, Esc.tabsEnd ≤ x) (hT : bS T w) :
  Calls Tryz.prog 86 #[.pointer (some ⟨b,0,none⟩),.int .u8 (x.toNat:Int)] w (gP (p.step (aU T) x) b h w):=by
 cases hX:p.output with
 | json W=>exact dE (gC (lE T)) (kD _) hi hw hf hn (by rw [hX];rfl) rfl x (fun _=>Pp.aAt hf hv x) hB hT.size hT
 | aY W=>exact dE (fX (aU T)) (kD _) hi hw hf hn (by rw [hX];rfl) rfl x (fun _ _ _=>trivial) (fun _ _=>Nat.zero_le _) (Nat.zero_le _) trivial
 | pack W=>exact dE (fY (aU T)) (kD _) hi hw hf hn (by rw [hX];rfl) rfl x (fun _ _ _=>trivial) (fun _ _=>Nat.zero_le _) (Nat.zero_le _) trivial
theorem aE7 (T : bI) {p : Pp} {b n : Nat} {h : Own.Heap} {w : World} (hi : p.Is b h) (hw : Own.Has w h) (hf : p.Fits n) (hn : n ≤ 80000) (hv : p.input.V) (hB : ∀ x ∈ Own.blocks h, Esc.tabsEnd ≤ x) (hT : bS T w) :
  Calls Tryz.prog 89 #[.pointer (some ⟨b,0,none⟩)] w (gP (p.fin (aU T)) b h w):=by
 cases hX:p.output with
 | json W=>exact fC (gC (lE T)) hi hw hf hn (by rw [hX];rfl) (fun _=>Pp.aEh hf hv) hB hT.size hT
 | aY W=>exact fC (fX (aU T)) hi hw hf hn (by rw [hX];rfl) (fun _ _ _=>trivial) (fun _ _=>Nat.zero_le _) (Nat.zero_le _) trivial
 | pack W=>exact fC (fY (aU T)) hi hw hf hn (by rw [hX];rfl) (fun _ _ _=>trivial) (fun _ _=>Nat.zero_le _) (Nat.zero_le _) trivial
theorem Pp.uT (s:Setup):(Pp.new s).bJ=0:=by
 unfold Pp.bJ Pp.new
 dsimp only
 split
 ·rfl
 ·rename_i k
  split at k
  ·obtain rfl:=Option.some.inj k;rfl
  ·cases k
theorem uE (T:bI) (s:Setup) (hr:right s=true) (l:List UInt8):((Pp.new s).all (aU T) l).2.length <= 6012 * (18 * l.length):=by
 have hf:=Pp.Fits.new s hr;have h0:=Pp.uT s;have ht:=Pp.vR (aU T) s hr l
 cases hX:(Pp.new s).output with
 | json W =>
  have:=(gC (lE T)).wok.iL l hf (by rw [hX];rfl) ht.step;rw [h0,Nat.zero_add] at this;omega
 | aY W =>
  have:=(fX (aU T)).wok.iL l hf (by rw [hX];rfl) (fun _ _ _ _ _=>trivial);rw [h0,Nat.zero_add] at this;omega
 | pack W =>
  have:=(fY (aU T)).wok.iL l hf (by rw [hX];rfl) (fun _ _ _ _ _=>trivial);rw [h0,Nat.zero_add] at this;omega
theorem nV (T:bI) (s:Setup) (hr:right s=true) (l:List UInt8):(batch (aU T) s l).1.length <= 6012 * (18 * (l.length + 1)):=by
 have hf:=Pp.Fits.new s hr;have hfa:=hf.all (aU T) l;have h0:=Pp.uT s;have ht:=Pp.vR (aU T) s hr l;have hka:=Pp.vN (aU T) l (Pp.new s);rw [sV _ _ hr,List.length_append]
 cases hX:(Pp.new s).output with
 | json W =>
  have h1:=(gC (lE T)).wok.iL l hf (by rw [hX];rfl) ht.step;have h2:=(gC (lE T)).wok.eM hfa (hka.trans (by rw [hX];rfl)) ht.fin;rw [h0,Nat.zero_add] at h1;omega
 | aY W =>
  have h1:=(fX (aU T)).wok.iL l hf (by rw [hX];rfl) (fun _ _ _ _ _=>trivial);have h2:=(fX (aU T)).wok.eM hfa (hka.trans (by rw [hX];rfl)) (fun _ _ _=>trivial);rw [h0,Nat.zero_add] at h1;omega
 | pack W =>
  have h1:=(fY (aU T)).wok.iL l hf (by rw [hX];rfl) (fun _ _ _ _ _=>trivial);have h2:=(fY (aU T)).wok.eM hfa (hka.trans (by rw [hX];rfl)) (fun _ _ _=>trivial);rw [h0,Nat.zero_add] at h1;omega
theorem rH (T:bI) (s:Setup) (hr:right s=true) (l:List UInt8) (x:UInt8):(((Pp.new s).all (aU T) l).1.step (aU T) x).2.1.length <= 6012 * (18 * (l.length + 1)):=by
 have:=uE T s hr (l ++ [x]);rw [Pp.vE,List.length_append,List.length_append,List.length_singleton] at this;omega
end Pip
end
section
open Go.RowKit
open Json (Part)
namespace Pip
section
variable {c:Core} {T:TypeId} {b:Nat} {post:List Value} {h:Own.Heap} {w:World}
theorem pS {n : Nat} (hi : c.Is T b post h) (hw : Own.Has w h) (hf : c.Fits n) :
  Calls Tryz.prog 194 #[.pointer (some ⟨b,0,none⟩)] w fun e w'=>e = .returned (.int .i64 (c.held:Int)) /\ ∃ m,w'=w.drewN m:=by
 have hs1:=hf.s;have hd:=hf.deep;have hd2:=hf.depth;obtain ⟨oa,oc,sa,sc,ho,hs,rfl,h1,h2⟩:=hi.cL;have c3:=hw.cell b _ _ mcs 3 _ rfl;have c1:=hw.cell b _ _ mcs 1 _ rfl;have c7:=hw.cell b _ _ mcs 7 _ rfl;have HP:=hhh (show c.held=if c.e ≠ 0 then 0 else c.s.length + c.opened.length from rfl);generalize c.held=O at HP |-;have HW:=hhh (show (c.s.length:Int) + (c.opened.length:Int)=((c.s.length + c.opened.length:Nat):Int) by omega);rcases Nat.eq_zero_or_pos c.e with h0 | h0
 ·have HQ:=hhh (show O=c.s.length + c.opened.length by rw [HP.o,if_neg (by omega)])
  rw [h0] at c3;clear hi hw h1 h2 HP h0 hf;go_enter Tryz.func194,Tryz.ntmps194;go_wp2;go_quiet (fail);go_wp2;go_ret;exact ⟨by rw [HQ.o];exact Own.dC HW.o,_,rfl⟩
 ·have hne:((c.e:Int) != 0)=true:=by rw [bne_iff_ne];omega
  have HQ:=hhh (show O=0 by rw [HP.o,if_pos (by omega)]);clear hi hw h1 h2 HP h0 hf;go_enter Tryz.func194,Tryz.ntmps194;go_wp2;go_ret;exact ⟨by rw [HQ.o];rfl,0,rfl⟩
end
section
variable {p:Jin} {b:Nat} {h:Own.Heap} {w:World}
theorem yI (hi : p.Is b h) (hw : Own.Has w h) (hf : p.Fits) :
  Calls Tryz.prog 164 #[.pointer (some ⟨b,0,none⟩)] w fun e w'=>e = .returned (.int .i64 (p.held:Int)) /\ ∃ m,w'=w.drewN m:=by
 obtain ⟨c26,-⟩:=hi.dN hw;by_cases he:p.e=0
 ·have HP:=hhh (show p.held=p.l.held + p.maps.length by unfold Jin.held;rw [if_neg (by omega)])
  have hB:=hf.l.held;have hM:p.maps.length <= 16:=Nat.le_trans hf.maps hf.depth;obtain ⟨mv,hm,hl,hs,il,rfl⟩:=hi;have HL:=hhh (fun n=>(aCg il (hw.left.drewN n)).mono fun e u hu=>(hu:e = .returned (.int .i64 (p.l.held:Int)) /\ u=w.drewN n));obtain ⟨a,c,rfl⟩:=hs.len;rw [List.length_map] at *
  obtain ⟨hpo,pp,sv,hb,hp,hB2,rfl⟩:=il;have c24:=hw.left.cell b _ _ mcs 24 _ rfl;generalize p.l.held=L at HP HL hB;generalize p.held=PH at HP |-;generalize p.maps.length=M at *
  rw [he] at c26;clear hw hf hs he hp hB2 hpo;go_enter Tryz.func164,Tryz.ntmps164;go_wp2_with (fail);go_quiet ((go_at_call 166;exact Calls.quiet_of_same (HL.o _)));go_wp2;go_ret;exact ⟨by rw [HP.o];exact congrArg (fun z=>Ending.returned (.int .i64 z)) (show (L:Int) + (M:Int)=((L + M:Nat):Int) by omega),_,rfl⟩
 ·have HP:=hhh (show p.held=0 by unfold Jin.held;rw [if_pos he])
  have hmb:((p.e:Int) != 0)=true:=by simp;omega
  generalize p.held=PH at HP |-;clear hi hw hf he;go_enter Tryz.func164,Tryz.ntmps164;go_wp2;go_ret;exact ⟨by rw [HP.o];rfl,0,rfl⟩
end
section
variable {p:Cin} {b:Nat} {h:Own.Heap} {w:World}
theorem tV {n : Nat} (hi : p.Is b h) (hw : Own.Has w h) (hf : p.c.Fits n) :
  Calls Tryz.prog 192 #[.pointer (some ⟨b,0,none⟩)] w fun e w'=>e = .returned (.int .i64 (p.c.held:Int)) /\ ∃ m,w'=w.drewN m:=by
 have HO:=hhh (pS hi hw hf);clear hi hw hf;go_enter Tryz.func192,Tryz.ntmps192;go_wp2_with (fail);refine HO.o.mono ?_;rintro e w2 ⟨rfl,m,rfl⟩;go_wp2;go_ret;exact ⟨rfl,m,rfl⟩
end
section
variable {p:Pin} {b:Nat} {h:Own.Heap} {w:World}
theorem tK {n : Nat} (hi : p.Is b h) (hw : Own.Has w h) (hf : p.c.Fits n) :
  Calls Tryz.prog 217 #[.pointer (some ⟨b,0,none⟩)] w fun e w'=>e = .returned (.int .i64 (p.c.held:Int)) /\ ∃ m,w'=w.drewN m:=by
 have HO:=hhh (pS hi hw hf);clear hi hw hf;go_enter Tryz.func217,Tryz.ntmps217;go_wp2_with (fail);refine HO.o.mono ?_;rintro e w2 ⟨rfl,m,rfl⟩;go_wp2;go_ret;exact ⟨rfl,m,rfl⟩
end
end Pip
end
section
open Go.RowKit
open Json (Part Wr)
namespace Pip
theorem uZ (w:World):Calls Tryz.prog 110 #[.pointer none] w fun e w'=>e = .returned (.int .i64 0) /\ w=w':=by
 go_enter Tryz.func110,Tryz.ntmps110;go_wp2;go_ret;exact ⟨rfl,rfl⟩
def sizeH:Option Stg -> Nat
 | none=>0
 | some s=>s.size
theorem wP {o : Option Stg} {v : Value} {h : Own.Heap} {w : World} (hi : HoldIs o v h) (hw : Own.Has w h) :
  Calls Tryz.prog 110 #[v] w fun e w'=>e = .returned (.int .i64 (sizeH o:Int)) /\ w=w':=by
 cases o with
 | none =>
  obtain ⟨rfl,rfl⟩:=hi;exact uZ w
 | some s =>
  obtain ⟨b,rfl,i⟩:=hi;exact uV i hw
def iM (w u:World):Prop:=∃ m,u=w.drewN m
theorem iM.refl (w:World):iM w w:=⟨0,rfl⟩
theorem iM.drewN {w u:World} (h:iM w u) (n:Nat):iM w (u.drewN n):=by
 obtain ⟨m,rfl⟩:=h;exact ⟨m + n,World.drewN_drewN ..⟩
theorem iM.has {w u:World} {h:Own.Heap} (d:iM w u) (hw:Own.Has w h):Own.Has u h:=by
 obtain ⟨m,rfl⟩:=d;exact hw.drewN m
def Reader.fnH:Reader -> Nat
 | .json _=>164
 | .aY _=>192
 | .pack _=>217
theorem aBx {r : Reader} {b n : Nat} {h : Own.Heap} {w : World} (hi : r.Is b h) (hw : Own.Has w h) (hf : r.Fits n) :
  Calls Tryz.prog r.fnH #[.pointer (some ⟨b,0,none⟩)] w fun e w'=>e = .returned (.int .i64 (r.held:Int)) /\ ∃ m,w'=w.drewN m:=by
 cases r with
 | json p=>exact yI (p:=p) hi hw hf
 | aY p=>exact tV (p:=p) hi hw (show p.Fits n from hf).c
 | pack p=>exact tK (p:=p) hi hw (show p.Fits n from hf).c
theorem aFd {p : Pp} {b n : Nat} {h : Own.Heap} {w : World} (hi : p.Is b h) (hw : Own.Has w h) (hf : p.Fits n) (hd : p.input.depth ≤ 16) :
  Calls Tryz.prog 92 #[.pointer (some ⟨b,0,none⟩)] w fun e w'=>e = .returned (.int .i64 (p.held:Int)) /\ ∃ m,w'=w.drewN m:=by
 have HM:=hhh (fA hi hw);by_cases hm:p.may=0
 ·have HP:=hhh (show p.held=p.input.held + sizeH p.hold by unfold Pp.held;rw [if_neg (by simp [hm])];cases p.hold <;> rfl)
  have hR:=Nat.le_trans hf.input.held (Nat.add_le_add_left hd 200);have hZ:sizeH p.hold <= 2000:=by
   cases hh:p.hold with
   | none=>exact Nat.zero_le _
   | some s=>exact Nat.le_trans (hf.hold s hh).size (hf.hold s hh).limit
  rw [hm] at HM;obtain ⟨rb,wb,hv,hr,hw0,hh,rfl,iR,iW,iH⟩:=hi;have hL:∀ u,iM w u -> Calls Tryz.prog p.input.fnH #[.pointer (some ⟨rb,0,none⟩)] u fun e u'=>e = .returned (.int .i64 (p.input.held:Int)) /\ iM w u':=by
   intro u t;refine (aBx iR ((t.has hw).right (a:=[_])).left hf.input).mono ?_;rintro e u' ⟨he,m,rfl⟩;exact ⟨he,t.drewN m⟩
  have HL:=hhh hL;have HS:=hhh (fun (u:World) (t:iM w u)=>wP iH (((t.has hw).right (a:=[_])).right).right);have HT0:=hhh (iM.refl w);have HC:=hhh (fun (u:World) (t:iM w u)=>(t.has hw).cell b _ _ mcs 2 _ rfl);have c0:=hw.cell b _ _ mcs 0 _ rfl;have c2:=hw.cell b _ _ mcs 2 _ rfl;obtain ⟨R,hRe⟩:∃ R,R=p.input.held:=⟨_,rfl⟩;obtain ⟨Z,hZe⟩:∃ Z,Z=sizeH p.hold:=⟨_,rfl⟩;rw [<- hRe] at hR HP HL;rw [<- hZe] at hZ HP HS;have hwrap:IntKind.i64.wrap ((R:Int) + (Z:Int))=((R + Z:Nat):Int):=by rw [IntKind.wrap_i64];omega
  have HWr:=hhh hwrap;generalize p.held=PH at HP |-;obtain ⟨pi,po,ph,pv,pe⟩:=p;simp only at c0 c2;clear hw hf hm hd iR iW iH hL hRe hZe hR hZ hwrap
  cases pi
  case json pj =>
   have hTA:=aAx;simp only [Reader.ty] at c0;simp only [Reader.fnH] at HL;go_enter Tryz.func92,Tryz.ntmps92;go_wp2_with (fail);refine HM.o.mono ?_;rintro e w1 ⟨rfl,rfl⟩;go_wp2_with (fail)
   go_region_with (first
    | (go_at_call 164;refine (HL.o _ (by first | exact HT0.o | exact HT0.o.drewN _)).mono ?_;rintro e W ⟨rfl,t⟩;have c2':=HC.o _ t)
    | (go_at_call 110;refine (HS.o _ (by first | exact HT0.o | exact HT0.o.drewN _ | assumption | exact iM.drewN (by assumption) _)).mono ?_;rintro e W ⟨rfl,rfl⟩))
   all_goals
    go_wp2;go_ret;exact ⟨by rw [HP.o];exact congrArg (fun z=>Ending.returned (.int .i64 z)) HWr.o,by first | assumption | exact iM.drewN (by assumption) _⟩
  case aY pj =>
   have hTA:=aAo;simp only [Reader.ty] at c0;simp only [Reader.fnH] at HL;go_enter Tryz.func92,Tryz.ntmps92;go_wp2_with (fail);refine HM.o.mono ?_;rintro e w1 ⟨rfl,rfl⟩;go_wp2_with (fail)
   go_region_with (first
    | (go_at_call 192;refine (HL.o _ (by first | exact HT0.o | exact HT0.o.drewN _)).mono ?_;rintro e W ⟨rfl,t⟩;have c2':=HC.o _ t)
    | (go_at_call 110;refine (HS.o _ (by first | exact HT0.o | exact HT0.o.drewN _ | assumption | exact iM.drewN (by assumption) _)).mono ?_;rintro e W ⟨rfl,rfl⟩))
   all_goals
    go_wp2;go_ret;exact ⟨by rw [HP.o];exact congrArg (fun z=>Ending.returned (.int .i64 z)) HWr.o,by first | assumption | exact iM.drewN (by assumption) _⟩
  case pack pj =>
   have hTA:=aAl;simp only [Reader.ty] at c0;simp only [Reader.fnH] at HL;go_enter Tryz.func92,Tryz.ntmps92;go_wp2_with (fail);refine HM.o.mono ?_;rintro e w1 ⟨rfl,rfl⟩;go_wp2_with (fail)
   go_region_with (first
    | (go_at_call 217;refine (HL.o _ (by first | exact HT0.o | exact HT0.o.drewN _)).mono ?_;rintro e W ⟨rfl,t⟩;have c2':=HC.o _ t)
    | (go_at_call 110;refine (HS.o _ (by first | exact HT0.o | exact HT0.o.drewN _ | assumption | exact iM.drewN (by assumption) _)).mono ?_;rintro e W ⟨rfl,rfl⟩))
   all_goals
    go_wp2;go_ret;exact ⟨by rw [HP.o];exact congrArg (fun z=>Ending.returned (.int .i64 z)) HWr.o,by first | assumption | exact iM.drewN (by assumption) _⟩
 ·have HP:=hhh (show p.held=0 by unfold Pp.held;rw [if_pos hm])
  have hmb:((p.may:Int) != 0)=true:=by rw [bne_iff_ne];omega
  generalize p.held=PH at HP |-;generalize p.may=m at HM hmb;clear hi hw hf hm hd;go_enter Tryz.func92,Tryz.ntmps92;go_wp2_with (fail);refine HM.o.mono ?_;rintro e w1 ⟨rfl,rfl⟩;go_wp2;go_ret;exact ⟨by rw [HP.o];rfl,0,rfl⟩
end Pip
end
section
open Go.RowKit
namespace Ses
open Pip
open Json (Part)
def PipeIs:Option Pp -> Value -> Own.Heap -> Prop
 | none,v,h=>v = .pointer none /\ h=[]
 | some p,v,h=>∃ b,v = .pointer (some ⟨b,0,none⟩) /\ p.Is b h
def post (s:St) (pv:Value):List Value :=
 [.string ⟨s.header.toArray⟩,.int .i64 s.setup.from_,.int .i64 s.setup.to,.int .i64 s.setup.depth,.int .i64 s.setup.stage,.int .i64 s.setup.limit,.bool s.told,pv,.bool s.half,.bool s.ended,.int .i64 (s.e:Int)]
abbrev aC3 (s:St) (sb rb:Nat) (lv pv:Value):Nat × Obj:=Queue.at_ sb 115 [.pointer (some ⟨rb,0,none⟩)] lv s.out (post s pv)
structure At (s:St) (sb rb bb:Nat) (r:Ring.St) (lv pv:Value) (hq hp:Own.Heap):Prop where
 f:r.Fits
 l:r.l.length=64
 a:r.all=s.inb
 q:Queue.Is s.out lv hq
 p:PipeIs s.p pv hp
def Is (s:St) (sb:Nat) (h:Own.Heap):Prop :=
 ∃ (rb bb:Nat) (r:Ring.St) (lv pv:Value) (hq hp:Own.Heap),At s sb rb bb r lv pv hq hp /\ h=aC3 s sb rb lv pv :: (hq ++ (Ring.heap r rb bb ++ hp))
theorem At.n {s:St} {sb rb bb:Nat} {r:Ring.St} {lv pv:Value} {hq hp:Own.Heap} (i:At s sb rb bb r lv pv hq hp):r.n=s.inb.length:=by
 rw [<- i.a,Ring.St.dM]
theorem gT {w:World} {x:Nat × Obj} {hq g hp:Own.Heap} (h:Own.Has w (x :: (hq ++ (g ++ hp)))):Own.Has w g:=(h.right (a:=x :: hq)).left
theorem nM {w:World} {x:Nat × Obj} {hq g hp:Own.Heap} (h:Own.Has w (x :: (hq ++ (g ++ hp)))):Own.Has w hp:=(h.right (a:=x :: hq)).right
theorem eT {w:World} {x:Nat × Obj} {hq g hp:Own.Heap} (h:Own.Has w (x :: (hq ++ (g ++ hp)))):Own.Has w (x :: hq):=Own.Has.left (a:=x :: hq) h
theorem eI {x y:Nat × Obj} {hq hq' g hp:Own.Heap} {u v:World} (t:Own.aA (x :: hq) (y :: hq') u v) (h:Own.Has u (x :: (hq ++ (g ++ hp)))):Own.aA (x :: (hq ++ (g ++ hp))) (y :: (hq' ++ (g ++ hp))) u v :=
 Own.aA.frame (r:=g ++ hp) t h
theorem jJ {x:Nat × Obj} {hq g g' hp:Own.Heap} {u v:World} (t:Own.aA g g' u v) (h:Own.Has u (x :: (hq ++ (g ++ hp)))):Own.aA (x :: (hq ++ (g ++ hp))) (x :: (hq ++ (g' ++ hp))) u v :=
 Own.aA.aJu (l:=x :: hq) t h
theorem lV {x:Nat × Obj} {hq g hp hp':Own.Heap} {u v:World} (t:Own.aA hp hp' u v) (h:Own.Has u (x :: (hq ++ (g ++ hp)))):Own.aA (x :: (hq ++ (g ++ hp))) (x :: (hq ++ (g ++ hp'))) u v:=by
 have e:∀ z,x :: (hq ++ (g ++ z))=(x :: (hq ++ g)) ++ z:=fun z=>by simp
 rw [e,e];rw [e] at h;exact t.behind h
theorem eC (w:World):Calls Tryz.prog 29 #[] w fun e w'=>∃ sb h,e = .returned (.pointer (some ⟨sb,0,none⟩)) /\ Is St.new sb h /\ Own.aA [] h w w':=by
 have HR:=hhh (fun W=>Ring.eC 64 (by omega) (by omega) W);go_enter Tryz.func29,Tryz.ntmps29;go_wp2_with (fail);refine (HR.o _).mono ?_;rintro e W1 ⟨rb,bb,rfl,ht⟩;go_wp2;go_ret;refine ⟨W1.heap.size,_,rfl,⟨rb,bb,⟨List.replicate 64 0,0,0⟩,.slice none 0 0,.pointer none,[],[],⟨⟨by decide,by decide,by decide⟩,rfl,rfl,Queue.Is.none,rfl,rfl⟩,rfl⟩,?_⟩;have t:=ht.alloc (.cells #[.pointer (some ⟨rb,0,none⟩),.slice none 0 0,.int .i64 0,.string ⟨#[]⟩,.int .i64 0,.int .i64 0,.int .i64 0,.int .i64 0,.int .i64 0,.bool false,.pointer none,.bool false,.bool false,.int .i64 0] 115);exact t
section
variable {s:St} {sb:Nat} {h:Own.Heap} {w:World}
theorem oV (i : Is s sb h) (hw : Own.Has w h) :
  Calls Tryz.prog 39 #[.pointer (some ⟨sb,0,none⟩)] w fun e w'=>e = .returned (.bool (!(s.half || s.ended))) /\ ∃ h',Is s.gW sb h' /\ Own.aA h h' w w':=by
 obtain ⟨rb,bb,r,lv,pv,hq,hp,a,rfl⟩:=i;have cell:=fun j v hj=>hw.cell sb _ _ mcs j v hj
 have c11:=cell 11 _ rfl;have c12:=cell 12 _ rfl;have f11:=hw.free sb _ _ mcs 11;have t0:=Own.aA.refl hw;have t1:Own.aA _ _ w (w.setCell ⟨sb,11,none⟩ (.bool true)):=t0.set 11 (.bool true) (by simp [post]);have T0:=hhh t0;have T1:=hhh t1;have AA:=hhh a;clear cell hw a t0 t1;obtain ⟨inb,out,header,setup,told,p,half,ended,e⟩:=s
 dsimp only [post] at c11 c12 f11 T1 |-
 cases half
 ·cases ended
  ·go_enter Tryz.func39,Tryz.ntmps39
   go_wp2;go_ret;exact ⟨rfl,_,⟨rb,bb,r,lv,pv,hq,hp,⟨AA.o.f,AA.o.l,AA.o.a,AA.o.q,AA.o.p⟩,rfl⟩,T1.o⟩
  ·go_enter Tryz.func39,Tryz.ntmps39
   go_wp2;go_ret;exact ⟨rfl,_,⟨rb,bb,r,lv,pv,hq,hp,AA.o,rfl⟩,T0.o⟩
 ·go_enter Tryz.func39,Tryz.ntmps39
  go_wp2;go_ret;exact ⟨rfl,_,⟨rb,bb,r,lv,pv,hq,hp,AA.o,rfl⟩,T0.o⟩
theorem lN (i : Is s sb h) (hw : Own.Has w h) :
  Calls Tryz.prog 40 #[.pointer (some ⟨sb,0,none⟩)] w fun e w'=>e = .returned (.bool s.ready) /\ w'=w:=by
 obtain ⟨rb,bb,r,lv,pv,hq,hp,a,rfl⟩:=i;have cell:=fun j v hj=>hw.cell sb _ _ mcs j v hj
 have c0:=cell 0 _ rfl;have c11:=cell 11 _ rfl;have c12:=cell 12 _ rfl;have HRL:=hhh (Ring.eO (gT hw));have HQL:=hhh (Queue.eO hw mcs 1 rfl);rw [a.n] at HRL;have HE:=hhh (show s.ready=(!s.ended && decide (s.out.length < 64) && (decide (0 < s.inb.length) || s.half)) from rfl);generalize s.ready=R at HE |-;generalize s.half=hf at c11 HE;generalize s.ended=en at c12 HE;generalize s.out.length=N at HE HQL;generalize s.inb.length=M at HE HRL;clear cell hw a
 cases en
 case true =>
  go_enter Tryz.func40,Tryz.ntmps40;go_wp2;go_ret;exact ⟨Own.dO HE.o.symm,rfl⟩
 by_cases hN:N < 64
 case neg =>
  go_enter Tryz.func40,Tryz.ntmps40;go_wp2_with (fail);refine HQL.o.mono ?_;rintro e1 W1 ⟨rfl,rfl⟩;go_wp2
  all_goals go_ret
  all_goals exact ⟨Own.dO (by rw [HE.o,decide_eq_false hN];rfl),rfl⟩
 by_cases hM:0 < M
 case pos =>
  go_enter Tryz.func40,Tryz.ntmps40;go_wp2_with (fail);refine HQL.o.mono ?_;rintro e1 W1 ⟨rfl,rfl⟩;go_wp2_with (fail);refine HRL.o.mono ?_;rintro e1 W1 ⟨rfl,rfl⟩;go_wp2
  all_goals go_ret
  all_goals exact ⟨Own.dO (by rw [HE.o,decide_eq_true hN,decide_eq_true hM];rfl),rfl⟩
 have hM0:M=0:=by omega
 subst hM0
 cases hf
 all_goals
  go_enter Tryz.func40,Tryz.ntmps40;go_wp2_with (fail);refine HQL.o.mono ?_;rintro e1 W1 ⟨rfl,rfl⟩;go_wp2_with (fail);refine HRL.o.mono ?_;rintro e1 W1 ⟨rfl,rfl⟩;go_wp2
  all_goals go_ret
  all_goals exact ⟨Own.dO (by rw [HE.o,decide_eq_true hN];rfl),rfl⟩
theorem yH (i : Is s sb h) (hw : Own.Has w h) :
  Calls Tryz.prog 51 #[.pointer (some ⟨sb,0,none⟩)] w fun r w'=>r = .returned (.bool s.closed) /\ w'=w:=by
 obtain ⟨rb,bb,r,lv,pv,hq,hp,a,rfl⟩:=i;have c12:=hw.cell sb _ _ mcs 12 _ rfl;have HL:=hhh (Queue.eO hw mcs 1 rfl);clear hw a
 cases he:s.ended with
 | false =>
  have HC:=hhh (show s.closed=false by unfold St.closed;rw [he];rfl);rw [he] at c12;clear he;go_enter Tryz.func51,Tryz.ntmps51;go_wp2;go_ret;exact ⟨Own.dO HC.o.symm,rfl⟩
 | true =>
  rw [he] at c12;by_cases h0:s.out.length=0
  ·have HC:=hhh (show s.closed=true by unfold St.closed;rw [he,List.eq_nil_of_length_eq_zero h0];rfl)
   have h0I:(s.out.length:Int)=0:=by omega
   have hb:((s.out.length:Int) == 0)=true:=by rw [h0I];rfl
   clear he h0I h0;go_enter Tryz.func51,Tryz.ntmps51;go_wp2_with (fail);refine HL.o.mono ?_;rintro e1 W1 ⟨rfl,rfl⟩;go_wp2
   all_goals go_ret
   all_goals exact ⟨Own.dO HC.o.symm,rfl⟩
  ·have HC:=hhh (show s.closed=false by unfold St.closed;rw [he];cases hs:s.out with | nil=>rw [hs] at h0;exact absurd rfl h0 | cons x l=>rfl)
   have hb:((s.out.length:Int) == 0)=false:=by rw [beq_eq_false_iff_ne];omega
   clear he;go_enter Tryz.func51,Tryz.ntmps51;go_wp2_with (fail);refine HL.o.mono ?_;rintro e1 W1 ⟨rfl,rfl⟩;go_wp2
   all_goals go_ret
   all_goals exact ⟨Own.dO HC.o.symm,rfl⟩
theorem xG (b:ByteArray) (k:Nat) (h:k <= b.size):(b.extract 0 k).size=k /\ (b.extract 0 k).data.toList=b.data.toList.take k:=by
 constructor
 ·rw [ByteArray.size_extract];omega
 ·rw [ByteArray.data_extract,Array.toList_extract];simp
theorem aFl (i : Is s sb h) (hw : Own.Has w h) (b : ByteArray) (hb : b.size ≤ 1000000) (room : Int) :
  Calls Tryz.prog 36 #[.pointer (some ⟨sb,0,none⟩),.string b,.int .i64 room] w fun e w'=>e = .returned (.int .i64 ((s.dS b.data.toList room:Nat):Int)) /\
   ∃ h',Is (s.feed b.data.toList room) sb h' /\ Own.aA h h' w w':=by
 obtain ⟨rb,bb,r,lv,pv,hq,hp,a,rfl⟩:=i;have cell:=fun j v hj=>hw.cell sb _ _ mcs j v hj
 have c0:=cell 0 _ rfl;have c11:=cell 11 _ rfl;have c12:=cell 12 _ rfl;have hn:=a.n;have hl:=a.l;have hbl:b.data.toList.length=b.size:=Array.length_toList;have Hw:=hhh hw;have AA:=hhh a;by_cases hs:(s.half || s.ended)=true
 ·have HT:=hhh (show s.dS b.data.toList room=0 by unfold St.dS;rw [if_pos hs])
  have HF:=hhh (show s.feed b.data.toList room=s by unfold St.feed;rw [HT.o];simp);have HI:Is s sb _:=⟨rb,bb,r,lv,pv,hq,hp,a,rfl⟩;have HI2:=hhh (HF.o.symm ▸ HI:Is (s.feed b.data.toList room) sb _);clear HI;clear cell hw hn hl hb hbl a
  cases hh:s.half <;> cases he:s.ended <;> (first | (rw [hh,he] at hs;exact absurd hs (by decide)) | skip)
  all_goals
   rw [hh] at c11;rw [he] at c12;clear hs hh he;go_enter Tryz.func36,Tryz.ntmps36;go_wp2;go_ret;exact ⟨Own.dC (by rw [HT.o];rfl),_,HI2.o,Own.aA.refl Hw.o⟩
 ·have hhalf:s.half=false:=by cases hh:s.half <;> simp_all
  have hend:s.ended=false:=by cases hh:s.ended <;> simp_all
  obtain ⟨k,hk⟩:∃ k,k=min b.size room.toNat:=⟨_,rfl⟩;have hkb:k <= b.size:=by omega
  have hx:=xG b k hkb;have HT:=hhh (show s.dS b.data.toList room=min (b.extract 0 k).size (r.l.length - r.n) by unfold St.dS;rw [if_neg hs,hx.1,hk,hbl,hl,hn]);have HP:=hhh (fun W (hW:Own.Has W (Ring.heap r rb bb))=>Ring.iF hW a.f (b.extract 0 k) (by rw [hx.1];omega) _ HT.o);rw [hhalf] at c11;rw [hend] at c12;have HA:=hhh (And.intro hn hx);have HB:=hhh (And.intro hb (And.intro hbl hl));obtain ⟨R,hR⟩:∃ R:Int,R=max room 0:=⟨_,rfl⟩;have hm1:(if room < 0 then 0 else room)=R:=by split <;> omega
  have hm2:max room 0=R:=hR.symm;have hm3:(if R < (b.size:Int) then R else (b.size:Int))=(k:Int):=by split <;> omega
  have hm4:min (b.size:Int) R=(k:Int):=by omega
  have hm5:(if (b.size:Int) < R then (b.size:Int) else R)=(k:Int):=by split <;> omega
  have hm6:(if 0 < room then room else 0)=R:=by split <;> omega
  clear cell hw hn hl hs hb hbl hx a;have hkI:(k:Int) <= (b.size:Int):=by omega
  have HK:=hhh (And.intro hk (And.intro hkb hR));clear hk hkb hR;go_enter Tryz.func36,Tryz.ntmps36;go_wp2;go_still_tail 11,(by kernel_rfl);go_wp2_with (fail);refine (HP.o _ (gT Hw.o.drew)).mono ?_;rintro e W1 ⟨r',rfl,f',hl',ha',ht⟩;go_wp2;go_ret;refine ⟨rfl,_,⟨rb,bb,r',lv,pv,hq,hp,⟨f',hl'.trans AA.o.l,?_,AA.o.q,AA.o.p⟩,rfl⟩,?_⟩
  ·obtain ⟨h3,h6,h7⟩:=HA.o
   rw [ha',AA.o.a,h7,List.take_take];have h8:=HT.o;rw [h6] at h8;show s.inb ++ _=s.inb ++ List.take (s.dS b.data.toList room) b.data.toList;rw [show min (s.dS b.data.toList room) k=s.dS b.data.toList room by omega]
  ·exact ((Own.aA.refl Hw.o).drew).trans (jJ ht Hw.o.drew)
end
end Ses
end
section
namespace Ses
open Pip
open Json (Part)
structure St.Good (T:Esc.bI) (n:Nat) (s:St):Prop where
 inb:s.inb.length <= 64
 out:s.out.length <= 300000000 * n
 head:s.header.length <= n
 early:s.told=false -> s.p=none
 late:s.told=true -> s.ended=false -> ∃ p,s.p=some p
 over:s.ended=true -> s.p=none /\ s.inb=[]
 pipe:∀ p,s.p=some p -> right s.setup=true /\ p.may=0 /\ ∃ l,l.length <= n /\ p=((Pp.new s.setup).all (aU T) l).1
variable {T:Esc.bI} {n m:Nat} {s:St}
theorem Good.new:St.new.Good T 0 :=
 ⟨Nat.zero_le _,Nat.zero_le _,Nat.zero_le _,fun _=>rfl,(fun h=>by cases h),(fun h=>by cases h),(fun p h=>by cases h)⟩
theorem St.Good.mono (g:s.Good T n) (h:n <= m):s.Good T m :=
 ⟨g.inb,Nat.le_trans g.out (Nat.mul_le_mul_left _ h),Nat.le_trans g.head h,g.early,g.late,g.over,fun p hp=>by
  obtain ⟨h1,h2,l,h3,h4⟩:=g.pipe p hp
  exact ⟨h1,h2,l,Nat.le_trans h3 h,h4⟩⟩
theorem fR (e:Nat) (told:Bool) (ho:s.out.length + 2 <= 300000000 * m) (hh:s.header.length <= m):(s.stop e told).Good T m :=
 ⟨Nat.zero_le _,by show (s.out ++ [_,_]).length <= _;rw [List.length_append];exact ho,hh,fun _=>rfl,(fun _ h=>by cases h),fun _=>⟨rfl,rfl⟩,(fun p h=>by cases h)⟩
theorem St.Good.write (g:s.Good T n) (k:Int):(s.write k).Good T n :=
 ⟨g.inb,by show (s.out.drop _).length <= _;rw [List.length_drop];have:=g.out;omega,g.head,g.early,g.late,g.over,g.pipe⟩
theorem nS (s:St) (b:List UInt8) (room:Int):s.dS b room <= 64 - s.inb.length /\ s.dS b room <= b.length /\ s.dS b room <= room.toNat:=by
 unfold St.dS;split <;> omega
theorem St.Good.feed (g:s.Good T n) (b:List UInt8) (room:Int):(s.feed b room).Good T n:=by
 refine ⟨?_,g.out,g.head,g.early,g.late,fun h=>?_,g.pipe⟩
 ·show (s.inb ++ b.take _).length <= 64
  have:=nS s b room;have:=g.inb;rw [List.length_append,List.length_take];omega
 ·have h0:s.ended=true:=h
  obtain ⟨h1,h2⟩:=g.over h0;refine ⟨h1,?_⟩;show s.inb ++ b.take (s.dS b room)=[];rw [h2,show s.dS b room=0 by unfold St.dS;rw [h0,Bool.or_true];rfl];rfl
theorem St.Good.gW (g:s.Good T n):s.gW.Good T n:=by
 unfold St.gW;split
 ·exact g
 ·exact ⟨g.inb,g.out,g.head,g.early,g.late,g.over,g.pipe⟩
theorem St.Good.fits (g:s.Good T n) {p:Pp} (h:s.p=some p):p.Fits (19 * n) /\ p.input.V /\ p.input.depth <= 16 /\ p.held <= 2300:=by
 obtain ⟨hr,_,l,hl,rfl⟩:=g.pipe p h;have hb:=(gU _).1 hr;have hd:=(Pp.eR.all (aU T) l (Pp.rP s.setup)).2;rw [Pp.rX] at hd;have hh:=(Pp.aGt (aU T) s.setup hr l).1;refine ⟨(Pp.Fits.all (aU T) l (Pp.Fits.new s.setup hr)).mono (by omega),Pp.aAq (aU T) l (Reader.V.new _ _),by omega,by omega⟩
theorem dP {T:Esc.bI} (s:Setup) (hr:right s=true) (l:List UInt8) (x:UInt8) (hl:l.length <= 2600):(((Pp.new s).all (aU T) l).1.step (aU T) x).2.1.length <= 290000000:=by
 have:=rH T s hr l x;omega
theorem eM {T:Esc.bI} (s:Setup) (hr:right s=true) (l:List UInt8) (hl:l.length <= 2600):(((Pp.new s).all (aU T) l).1.fin (aU T)).2.1.length <= 290000000:=by
 have:=nV T s hr l;rw [sV _ _ hr,List.length_append] at this;omega
theorem aB6 (g:s.Good T n) (hn:n <= 2600) (p:Pp) (hp:s.p=some p) (he:s.ended=false) (ht:s.told=true) (b:UInt8) (l:List UInt8) (hl:l.length <= 64):(({ s with inb:=l }:St).byte (aU T) p b).Good T (n + 1):=by
 obtain ⟨hr,hm,d,hd,hpd⟩:=g.pipe p hp;have hlen:(p.step (aU T) b).2.1.length <= 290000000:=by rw [hpd];exact dP s.setup hr d b (by omega)
 have ho:=g.out;have hh:=g.head;unfold St.byte
 dsimp only
 split
 ·refine fR _ _ ?_ (Nat.le_trans hh (Nat.le_succ _))
  show (s.out ++ _).length + 2 <= _;rw [List.length_append];omega
 ·rename_i h0
  refine ⟨hl,?_,Nat.le_trans hh (Nat.le_succ _),fun h=>?_,fun _ _=>⟨_,rfl⟩,fun h=>?_,fun q hq=>?_⟩
  ·show (s.out ++ _).length <= _
   rw [List.length_append];omega
  ·rw [show s.told=false from h] at ht;cases ht
  ·rw [show s.ended=true from h] at he;cases he
  ·cases hq
   refine ⟨hr,?_,d ++ [b],by rw [List.length_append,List.length_singleton];omega,?_⟩
   ·rw [Pp.wU];omega
   ·rw [Pp.vE,<- hpd]
theorem yO (g:s.Good T n) (he:s.ended=false) (ht:s.told=false) (b:UInt8) (l:List UInt8) (hl:l.length <= 64):(({ s with inb:=l }:St).gZ b).Good T (n + 1):=by
 have ho:=g.out;have hh:(s.header ++ [b]).length <= n + 1:=by rw [List.length_append,List.length_singleton];have:=g.head;omega
 have hp:=g.early ht;unfold St.gZ
 dsimp only
 split
 ·exact ⟨hl,by show s.out.length <= _;omega,hh,fun _=>hp,(fun h=>by rw [show s.told=true from h] at ht;cases ht),(fun h=>by rw [show s.ended=true from h] at he;cases he),(fun p h=>by rw [show s.p=some p from h] at hp;cases hp)⟩
 ·split
  ·rename_i h0
   have hg:=pT _ h0;refine ⟨hl,by show (s.out ++ [75]).length <= _;rw [List.length_append,List.length_singleton];omega,hh,(fun h=>by cases h),fun _ _=>⟨_,rfl⟩,(fun h=>by rw [show s.ended=true from h] at he;cases he),fun p h=>?_⟩
   cases h
   exact ⟨hg.2.1,Pp.aAj _,[],Nat.zero_le _,rfl⟩
  ·refine fR _ _ ?_ hh
   show s.out.length + 2 <= _;omega
theorem rL (g:s.Good T n) (hn:n <= 2600) (he:s.ended=false):(s.once (aU T)).Good T (n + 1):=by
 have ho:=g.out;have hh:=g.head
 cases hi:s.inb with
 | nil =>
  cases ht:s.told with
  | false =>
   rw [show s.once (aU T)=s.stop 3 false by unfold St.once;rw [hi,ht]];exact fR _ _ (by omega) (by omega)
  | true =>
   obtain ⟨p,hp⟩:=g.late ht he;obtain ⟨hr,hm,d,hd,hpd⟩:=g.pipe p hp;have hlen:(p.fin (aU T)).2.1.length <= 290000000:=by rw [hpd];exact eM s.setup hr d (by omega)
   rw [show s.once (aU T)=({ s with out:=s.out ++ (p.fin (aU T)).2.1 }:St).stop (p.fin (aU T)).2.2 true by unfold St.once;rw [hi,ht,hp]];refine fR _ _ ?_ (Nat.le_trans hh (Nat.le_succ _));show (s.out ++ _).length + 2 <= _;rw [List.length_append];omega
 | cons b l =>
  have hl:l.length <= 64:=by have:=g.inb;rw [hi,List.length_cons] at this;omega
  cases ht:s.told with
  | false =>
   rw [show s.once (aU T)=({ s with inb:=l }:St).gZ b by unfold St.once;rw [hi,ht]];exact yO g he ht b l hl
  | true =>
   obtain ⟨p,hp⟩:=g.late ht he;rw [show s.once (aU T)=({ s with inb:=l }:St).byte (aU T) p b by unfold St.once;rw [hi,ht,hp]];exact aB6 g hn p hp he ht b l hl
theorem gV {s:St} (h:s.ready=true):s.ended=false:=by
 unfold St.ready at h
 cases he:s.ended with
 | false=>rfl
 | true=>rw [he] at h;cases h
theorem sB (g:s.Good T n) (hn:n <= 2600) (he:s.ended=false) (may:Option (Int -> Bool)):(s.jP (aU T) may).Good T (n + 1):=by
 have h1:=rL g hn he;unfold St.jP;split
 ·refine fR _ _ ?_ h1.head
  show (List.take _ _).length + 2 <= _;have:=g.out;rw [List.length_take];omega
 ·exact h1
theorem uS (may:Option (Int -> Bool)):∀ (k n:Nat) (s:St),s.Good T n -> n + k <= 2600 -> (s.run (aU T) may k).1.Good T (n + k)
 | 0,_,_,g,_=>g
 | k + 1,n,s,g,h=>by
  unfold St.run
  split
  ·rename_i hr
   have:=uS may k (n + 1) _ (sB g (by omega) (gV hr) may) (by omega)
   rw [show n + (k + 1)=n + 1 + k by omega]
   exact this
  ·exact g.mono (by omega)
theorem rM (g:s.Good T n):s.aN <= 300000000 * n + 2400:=by
 unfold St.aN;have h1:=g.inb;have h2:=g.out;split
 ·omega
 ·cases hp:s.p with
  | none=>simp only [heldO];omega
  | some p=>have h3:=(g.fits hp).2.2.2;simp only [heldO];omega
end Ses
end
section
open Go.RowKit
namespace Ses
open Pip
section
variable {T:Esc.bI} {n:Nat} {s:St} {sb:Nat} {h:Own.Heap} {w:World}
theorem cF (i : Is s sb h) (hw : Own.Has w h) (g : s.Good T n) (hn : n ≤ 2600) :
  Calls Tryz.prog 68 #[.pointer (some ⟨sb,0,none⟩)] w fun e w'=>e = .returned (.int .i64 (s.aN:Int)) /\ ∃ m,w'=w.drewN m:=by
 obtain ⟨rb,bb,r,lv,pv,hq,hp,a,rfl⟩:=i;have cell:=fun j v hj=>hw.cell sb _ _ mcs j v hj
 have c0:=cell 0 _ rfl;have c10:=cell 10 _ rfl;have c12:=cell 12 _ rfl;have HRL:=hhh (fun m=>Ring.eO (r:=r) (rb:=rb) (bb:=bb) (w:=w.drewN m) ((gT hw).drewN m));have HQL:=hhh (fun m=>Queue.eO (w:=w.drewN m) (hw.drewN m) mcs 1 rfl);have hin:=g.inb;have hout:=g.out;rw [a.n] at HRL;obtain ⟨MI,hMI⟩:∃ z:Int,z=(s.inb.length:Int):=⟨_,rfl⟩;obtain ⟨NI,hNI⟩:∃ z:Int,z=(s.out.length:Int):=⟨_,rfl⟩;rw [<- hMI] at HRL;rw [<- hNI] at HQL;have hM0:0 <= MI:=by omega
 have hM1:MI <= 64:=by omega
 have hN0:0 <= NI:=by omega
 have hN1:NI <= 1000000000000:=by omega
 have hwr:IntKind.i64.wrap (MI + NI)=MI + NI:=by rw [IntKind.wrap_i64];omega
 have HC:=hhh (show (s.aN:Int)=MI + NI + (if s.ended then 0 else (heldO s.p:Int) + 2) by
  unfold St.aN;rw [hMI,hNI];cases s.ended <;> simp)
 have HH:=hhh (fun (p:Pp) (hpp:s.p=some p)=>(g.fits hpp));have A:=hhh (And.intro hw (And.intro hn a.p));clear cell hw hin hout hMI hNI a g hn
 cases he:s.ended with
 | true =>
  rw [he] at c12 HC;clear he;go_enter Tryz.func68,Tryz.ntmps68;go_wp2;go_quiet (first | exact Calls.quiet_of_same (HRL.o _) | exact Calls.quiet_of_same (HQL.o _));go_wp2;go_ret;exact ⟨Own.dC (by rw [HC.o];simp),_,rfl⟩
 | false =>
  rw [he] at c12 HC;clear he
  cases hp1:s.p with
  | none =>
   have hA:=A.o.2.2;rw [hp1] at hA HC;obtain ⟨rfl,rfl⟩:=hA;clear hp1 A HH;go_enter Tryz.func68,Tryz.ntmps68;go_wp2;go_quiet (first | exact Calls.quiet_of_same (HRL.o _) | exact Calls.quiet_of_same (HQL.o _));go_wp2;go_ret;exact ⟨Own.dC (by rw [HC.o];simp [heldO]),_,rfl⟩
  | some p =>
   have hA:=A.o.2.2;rw [hp1] at hA HC;obtain ⟨pb,rfl,hpi⟩:=hA;obtain ⟨hf,_,hd,hh⟩:=HH.o p hp1;have hasp:=nM A.o.1;have HP:=hhh (fun m=>aFd hpi (hasp.drewN m) hf hd);obtain ⟨HI,hHI⟩:∃ z:Int,z=(p.held:Int):=⟨_,rfl⟩;rw [<- hHI] at HP;have hH0:0 <= HI:=by omega
   have hH1:HI <= 2300:=by omega
   have HC2:=hhh (show (s.aN:Int)=MI + NI + HI + 2 by rw [HC.o,hHI];simp only [heldO];simp;omega);clear hp1 A HH hHI hf hd hh hpi hasp HC;go_enter Tryz.func68,Tryz.ntmps68;go_wp2;go_quiet (first | exact Calls.quiet_of_same (HRL.o _) | exact Calls.quiet_of_same (HQL.o _));go_wp2_with (fail);refine (HP.o _).mono ?_;rintro e W1 ⟨rfl,m1,rfl⟩;go_wp2;go_ret;exact ⟨Own.dC (by rw [HC2.o]),_,rfl⟩
end
end Ses
end
section
open Go.RowKit
namespace Ses
open Pip
theorem aFx (e:Nat):UInt8.ofNat ((e:Int) % 256).toNat=UInt8.ofNat e:=by
 apply UInt8.toNat_inj.1;rw [UInt8.toNat_ofNat',UInt8.toNat_ofNat'];omega
theorem mV {a:Own.Heap} {x:Nat × Obj} {hq g hp:Own.Heap} {u v:World} (t:Own.aA a (x :: (hq ++ (g ++ hp))) u v):Own.aA a (x :: (hq ++ (g ++ []))) u v:=by
 have e:x :: (hq ++ (g ++ hp))=(x :: (hq ++ (g ++ []))) ++ hp:=by simp
 rw [e] at t;exact t.drop
def last (e:Nat) (told:Bool):List UInt8:=[if told then 255 else 78,UInt8.ofNat e]
section
variable {s:St} {sb:Nat} {h:Own.Heap} {w:World}
theorem rI {a R : Own.Heap} {u v : World} {pre : List Value} (hp : pre.length = 1) {lv pv : Value} {c : List UInt8} (t : Own.aA a (Queue.at_ sb 115 pre lv c (post s pv) :: R) u v) (e : Nat) :
  Own.aA a (Queue.at_ sb 115 pre lv c (post { s with ended:=true,e:=e } (.pointer none)) :: R) u (((v.setCell ⟨sb,12,none⟩ (.bool true)).setCell ⟨sb,13,none⟩ (.int .i64 (e:Int))).setCell ⟨sb,10,none⟩ (.pointer none)):=by
 obtain ⟨p,rfl⟩:∃ p,pre=[p]:=by
  match pre,hp with
  | [p],_=>exact ⟨p,rfl⟩
 have t2:=((t.set 12 (.bool true) (by simp [post])).set 13 (.int .i64 (e:Int)) (by simp [post])).set 10 (.pointer none) (by simp [post]);exact t2
theorem fC (i : Is s sb h) (hw : Own.Has w h) (e : Nat) (told : Bool) (ho : s.out.length ≤ 999999999990) :
  Calls Tryz.prog 78 #[.pointer (some ⟨sb,0,none⟩),.int .i64 (e:Int),.bool told] w fun r w'=>(∃ v,r = .returned v) /\ ∃ h',Is (s.stop e told) sb h' /\ Own.aA h h' w w':=by
 obtain ⟨rb,bb,r,lv,pv,hq,hp,a,rfl⟩:=i;have HN:=hhh (fun W=>aId (e:Int) W);have HTr:=hhh (fun W=>xH (e:Int) W);rw [aFx] at HN HTr;have Hw:=hhh hw;have AA:=hhh (And.intro a ho);clear hw a ho
 cases told
 case false =>
  go_enter Tryz.func78,Tryz.ntmps78;go_wp2;go_region_with (first | (go_at_call 57;refine (HN.o _).mono ?_;rintro e1 W1 ⟨rfl,b1⟩;have T1:=hhh (((Own.aA.refl Hw.o).drew).trans (Own.aA.aL Hw.o.drew b1));clear b1) | (go_at_call 95;refine (Queue.fB (eT T1.o.has) AA.o.1.q 1 rfl ⟨([78,UInt8.ofNat e]:List UInt8).toArray⟩ (by have:=AA.o.2;show s.out.length + 2 <= 1000000000000;omega)).mono ?_;rintro e2 W2 ⟨⟨v2,rfl⟩,lv',hq',q',t2⟩;have T2:=hhh (T1.o.trans (eI t2 T1.o.has));have Q2:=hhh q';clear t2 q'))
  all_goals
   have T3:=rI (pre:=[.pointer (some ⟨rb,0,none⟩)]) rfl T2.o e;have cell:=fun j v hj=>T2.o.has.cell sb 115 _ mcs j v hj
   have c0:=cell 0 _ rfl;have c10:=cell 10 _ rfl;have c12:=cell 12 _ rfl;have c13:=cell 13 _ rfl;have f10:=T2.o.has.free sb 115 _ mcs 10;have f12:=T2.o.has.free sb 115 _ mcs 12;have f13:=T2.o.has.free sb 115 _ mcs 13;have TT3:=hhh T3;clear T3 cell;go_wp2_with (fail);refine (Ring.sK (gT TT3.o.has) AA.o.1.f).mono ?_;rintro e3 W3 ⟨r',⟨v3,rfl⟩,f',hl',ha',t4⟩;go_wp2;go_end0;exact ⟨⟨_,rfl⟩,_,⟨rb,bb,r',lv',.pointer none,hq',[],⟨f',hl'.trans AA.o.1.l,ha',Q2.o,rfl,rfl⟩,rfl⟩,mV (TT3.o.trans (jJ t4 TT3.o.has))⟩
 case true =>
  go_enter Tryz.func78,Tryz.ntmps78;go_wp2;go_region_with (first | (go_at_call 60;refine (HTr.o _).mono ?_;rintro e1 W1 ⟨rfl,b1⟩;have T1:=hhh (((Own.aA.refl Hw.o).drew).trans (Own.aA.aL Hw.o.drew b1));clear b1) | (go_at_call 95;refine (Queue.fB (eT T1.o.has) AA.o.1.q 1 rfl ⟨([255,UInt8.ofNat e]:List UInt8).toArray⟩ (by have:=AA.o.2;show s.out.length + 2 <= 1000000000000;omega)).mono ?_;rintro e2 W2 ⟨⟨v2,rfl⟩,lv',hq',q',t2⟩;have T2:=hhh (T1.o.trans (eI t2 T1.o.has));have Q2:=hhh q';clear t2 q'))
  all_goals
   have T3:=rI (pre:=[.pointer (some ⟨rb,0,none⟩)]) rfl T2.o e;have cell:=fun j v hj=>T2.o.has.cell sb 115 _ mcs j v hj
   have c0:=cell 0 _ rfl;have c10:=cell 10 _ rfl;have c12:=cell 12 _ rfl;have c13:=cell 13 _ rfl;have f10:=T2.o.has.free sb 115 _ mcs 10;have f12:=T2.o.has.free sb 115 _ mcs 12;have f13:=T2.o.has.free sb 115 _ mcs 13;have TT3:=hhh T3;clear T3 cell;go_wp2_with (fail);refine (Ring.sK (gT TT3.o.has) AA.o.1.f).mono ?_;rintro e3 W3 ⟨r',⟨v3,rfl⟩,f',hl',ha',t4⟩;go_wp2;go_end0;exact ⟨⟨_,rfl⟩,_,⟨rb,bb,r',lv',.pointer none,hq',[],⟨f',hl'.trans AA.o.1.l,ha',Q2.o,rfl,rfl⟩,rfl⟩,mV (TT3.o.trans (jJ t4 TT3.o.has))⟩
end
end Ses
end
section
open Go.RowKit
namespace Ses
open Pip
section
variable {T:Esc.bI} {n:Nat} {s:St} {sb rb bb:Nat} {r:Ring.St} {lv pv:Value} {hq hp h:Own.Heap} {w:World}
theorem take_one (a : At s sb rb bb r lv pv hq hp) (hw : Own.Has w (aC3 s sb rb lv pv :: (hq ++ (Ring.heap r rb bb ++ hp)))) :
  Calls Tryz.prog 94 #[.pointer (some ⟨rb,0,none⟩),.int .i64 1] w fun e w'=>e = .returned (.string ⟨(s.inb.take 1).toArray⟩) /\ ∃ r',At { s with inb:=s.inb.drop 1 } sb rb bb r' lv pv hq hp /\
   Own.aA (aC3 s sb rb lv pv :: (hq ++ (Ring.heap r rb bb ++ hp))) (aC3 s sb rb lv pv :: (hq ++ (Ring.heap r' rb bb ++ hp))) w w':=by
 refine (Ring.xC (gT hw) a.f 1 (by omega)).mono ?_;rintro e w' ⟨r',rfl,f',hl',ha',t⟩;rw [a.a];exact ⟨rfl,r',⟨f',hl'.trans a.l,by rw [ha',a.a],a.q,a.p⟩,jJ t hw⟩
theorem uU {S:ByteArray} (h:S.data.toList=[]):S.toList.isEmpty=true:=by rw [ByteArray.toList_eq,h];rfl
theorem sI {S:ByteArray} (h:S.data.toList ≠ []):S.toList.isEmpty=false:=by rw [ByteArray.toList_eq];cases hs:S.data.toList with | nil=>exact absurd hs h | cons x l=>rfl
theorem aDb (i : Is s sb h) (hw : Own.Has w h) (ho : s.out.length ≤ 999999999990) (hi : s.inb = []) (ht : s.told = false) :
  Calls Tryz.prog 76 #[.pointer (some ⟨sb,0,none⟩)] w fun r w'=>(∃ v,r = .returned v) /\ ∃ h',Is (s.stop 3 false) sb h' /\ Own.aA h h' w w':=by
 obtain ⟨rb,bb,r,lv,pv,hq,hp,a,rfl⟩:=i;have HTk:=hhh (take_one a hw);have c0:=hw.cell sb 115 _ mcs 0 _ rfl;obtain ⟨S,hS⟩:∃ S:ByteArray,S=⟨(s.inb.take 1).toArray⟩:=⟨_,rfl⟩;have e0:=uU (S:=S) (by rw [hS,hi];rfl);rw [<- hS] at HTk;have HO:=hhh ho;clear hw a hS hi ho;go_enter Tryz.func76,Tryz.ntmps76;go_wp2_with (fail);refine HTk.o.mono ?_;rintro e w1 ⟨rfl,r',a1,t1⟩;have c9:=t1.has.cell sb 115 _ mcs 9 _ rfl;rw [ht] at c9;have HE:=hhh (show Calls Tryz.prog 78 #[.pointer (some ⟨sb,0,none⟩),.int .i64 3,.bool false] w1 _ from fC (s:={ s with inb:=s.inb.drop 1 }) ⟨rb,bb,r',lv,pv,hq,hp,a1,rfl⟩ t1.has 3 false HO.o);have T1:=hhh t1;clear a1 t1 HTk ht;go_wp2_with (fail);refine HE.o.mono ?_;rintro e w2 ⟨⟨v,rfl⟩,h',i',t'⟩;have H:=hhh (And.intro i' (T1.o.trans t'));clear i' t' HE;go_wp2;go_end0;exact ⟨⟨_,rfl⟩,h',H.o.1,H.o.2⟩
theorem aDu (i : Is s sb h) (hw : Own.Has w h) (g : s.Good T n) (hn : n ≤ 2600) (hB : ∀ x ∈ Own.blocks h, Esc.tabsEnd ≤ x) (hT : Esc.bS T w) (hi : s.inb = []) (ht : s.told = true) (p : Pp) (hp0 : s.p = some p) :
  Calls Tryz.prog 76 #[.pointer (some ⟨sb,0,none⟩)] w fun r w'=>(∃ v,r = .returned v) /\ ∃ h',Is (({ s with out:=s.out ++ (p.fin (aU T)).2.1 }:St).stop (p.fin (aU T)).2.2 true) sb h' /\ Own.aA h h' w w':=by
 obtain ⟨rb,bb,r,lv,pv,hq,hp,a,rfl⟩:=i;have HTk:=hhh (take_one a hw);have c0:=hw.cell sb 115 _ mcs 0 _ rfl;obtain ⟨S,hS⟩:∃ S:ByteArray,S=⟨(s.inb.take 1).toArray⟩:=⟨_,rfl⟩;have e0:=uU (S:=S) (by rw [hS,hi];rfl);rw [<- hS] at HTk;obtain ⟨hf,hv,_,_⟩:=g.fits hp0;have hfl:(p.fin (aU T)).2.1.length <= 290000000:=by
  obtain ⟨hr,hm,d,hd,hpd⟩:=g.pipe p hp0;rw [hpd];exact eM s.setup hr d (by omega)
 have HEnd:=hhh (fun (b:Nat) (hh:Own.Heap) (W:World) (hi:p.Is b hh) (hW:Own.Has W hh) (hBW:∀ x ∈ Own.blocks hh,Esc.tabsEnd <= x) (hTW:Esc.bS T W)=>aE7 T hi hW hf (by omega) hv hBW hTW);generalize p.fin (aU T)=o at HEnd hfl |-;obtain ⟨p2,t2,e2⟩:=o;simp only at HEnd hfl |-;have ho:s.out.length + t2.length + 2 <= 999999999990:=by have:=g.out;omega
 have HO:=hhh ho;have HBT:=hhh (And.intro hw (And.intro hB hT));have HP0:=hhh hp0;clear hw a hS hi ho hf hv hfl g hn hp0 hB hT;go_enter Tryz.func76,Tryz.ntmps76;go_wp2_with (fail);refine HTk.o.mono ?_;rintro e w1 ⟨rfl,r',a1,t1⟩;have c9:=t1.has.cell sb 115 _ mcs 9 _ rfl;have c10:=t1.has.cell sb 115 _ mcs 10 _ rfl;rw [ht] at c9;have hPI:=a1.p;rw [show ({ s with inb:=s.inb.drop 1 }:St).p=some p from HP0.o] at hPI;obtain ⟨pb,rfl,hpi⟩:=hPI;have hB1:=t1.least HBT.o.2.1 HBT.o.2.2.size;have hT1:=HBT.o.2.2.of (t1.below HBT.o.2.1 HBT.o.2.2.size)
 have HE:=hhh (HEnd.o pb hp w1 hpi (nM t1.has) (fun x hx=>hB1 x (by
  simp only [Own.blocks,List.map_cons,List.map_append,List.mem_cons,List.mem_append] at hx |-
  exact .inr (.inr (.inr hx)))) hT1)
 have T1:=hhh t1;have A1:=hhh a1;clear a1 t1 HTk ht hpi hB1 hT1;go_wp2_with (fail);refine HE.o.mono ?_;rintro e w2 ⟨hp2,rfl,i2,t2'⟩;have T2:=hhh (T1.o.trans (lV t2' T1.o.has));have HA:=hhh (Queue.fB (eT T2.o.has) A1.o.q 1 rfl ⟨t2.toArray⟩ (by have:=HO.o;show s.out.length + t2.length <= 1000000000000;omega));have I2:=hhh i2;clear i2 t2' HE;go_wp2_with (fail);refine HA.o.mono ?_;rintro e w3 ⟨⟨v,rfl⟩,lv3,hq3,q3,t3⟩;have T3:=hhh (T2.o.trans (eI t3 T2.o.has));have i3:Is ({ s with inb:=s.inb.drop 1,out:=s.out ++ t2,p:=some p2 }:St) sb _:=⟨rb,bb,r',lv3,.pointer (some ⟨pb,0,none⟩),hq3,hp2,⟨A1.o.f,A1.o.l,A1.o.a,q3,pb,rfl,I2.o⟩,rfl⟩;have HF:=hhh (fC i3 T3.o.has e2 true (by have:=HO.o;show (s.out ++ t2).length <= _;rw [List.length_append];omega));clear q3 t3 i3 HA;go_wp2_with (fail);refine HF.o.mono ?_;rintro e w4 ⟨⟨v,rfl⟩,h',i',t'⟩;have H:=hhh (And.intro i' (T3.o.trans t'));clear i' t' HF;go_wp2;go_end0;exact ⟨⟨_,rfl⟩,h',H.o.1,H.o.2⟩
theorem aC1 (i : Is s sb h) (hw : Own.Has w h) (g : s.Good T n) (hn : n ≤ 2600) (hB : ∀ x ∈ Own.blocks h, Esc.tabsEnd ≤ x) (hT : Esc.bS T w) (b : UInt8) (l : List UInt8) (hi : s.inb = b :: l) (ht : s.told = true) (p : Pp) (hp0 : s.p = some p) :
  Calls Tryz.prog 76 #[.pointer (some ⟨sb,0,none⟩)] w fun r w'=>(∃ v,r = .returned v) /\ ∃ h',Is (({ s with inb:=l }:St).byte (aU T) p b) sb h' /\ Own.aA h h' w w':=by
 obtain ⟨rb,bb,r,lv,pv,hq,hp,a,rfl⟩:=i;have HTk:=hhh (take_one a hw);have c0:=hw.cell sb 115 _ mcs 0 _ rfl;obtain ⟨S,hS⟩:∃ S:ByteArray,S=⟨(s.inb.take 1).toArray⟩:=⟨_,rfl⟩;have e0:=sI (S:=S) (by rw [hS,hi];simp);rw [<- hS] at HTk;have hz:S.size=1:=by rw [hS,hi];rfl
 have hz0:0 < S.size:=by omega
 have hS0:S[0]=b:=by
  have:S=⟨#[b]⟩:=by rw [hS,hi];rfl
  subst this;rfl
 obtain ⟨hf,hv,_,_⟩:=g.fits hp0;have hfl:(p.step (aU T) b).2.1.length <= 290000000:=by
  obtain ⟨hr,hm,d,hd,hpd⟩:=g.pipe p hp0;rw [hpd];exact dP s.setup hr d b (by omega)
 have HEnd:=hhh (fun (pb:Nat) (hh:Own.Heap) (W:World) (hi:p.Is pb hh) (hW:Own.Has W hh) (hBW:∀ x ∈ Own.blocks hh,Esc.tabsEnd <= x) (hTW:Esc.bS T W)=>aBj T hi hW hf (by omega) hv S[0] hBW hTW);rw [hS0] at HEnd;unfold St.byte;simp only;generalize p.step (aU T) b=o at HEnd hfl |-;obtain ⟨p2,t2,e2⟩:=o;simp only at HEnd hfl |-;rw [<- hS0] at HEnd;have HR1:=hhh (show e2=0 -> (if e2 ≠ 0 then ({ s with inb:=l,out:=s.out ++ t2,p:=some p2 }:St).stop e2 true else ({ s with inb:=l,out:=s.out ++ t2,p:=some p2 }:St))=({ s with inb:=l,out:=s.out ++ t2,p:=some p2 }:St) from fun h0=>if_neg (not_not_intro h0));have HR2:=hhh (show e2 ≠ 0 -> (if e2 ≠ 0 then ({ s with inb:=l,out:=s.out ++ t2,p:=some p2 }:St).stop e2 true else ({ s with inb:=l,out:=s.out ++ t2,p:=some p2 }:St))=({ s with inb:=l,out:=s.out ++ t2,p:=some p2 }:St).stop e2 true from fun h0=>if_pos h0);generalize (if e2 ≠ 0 then ({ s with inb:=l,out:=s.out ++ t2,p:=some p2 }:St).stop e2 true else ({ s with inb:=l,out:=s.out ++ t2,p:=some p2 }:St))=R at HR1 HR2 |-;have ho:s.out.length + t2.length + 2 <= 999999999990:=by have:=g.out;omega
 have HO:=hhh ho;have HBT:=hhh (And.intro hw (And.intro hB hT));have HP0:=hhh hp0;have HL:=hhh (show s.inb.drop 1=l by rw [hi];rfl);clear hw a hS hi ho hf hv hfl g hn hp0 hB hT hS0;go_enter Tryz.func76,Tryz.ntmps76;go_wp2_with (fail);refine HTk.o.mono ?_;rintro e w1 ⟨rfl,r',a1,t1⟩;have c9:=t1.has.cell sb 115 _ mcs 9 _ rfl;have c10:=t1.has.cell sb 115 _ mcs 10 _ rfl;rw [ht] at c9;have hPI:=a1.p;rw [show ({ s with inb:=s.inb.drop 1 }:St).p=some p from HP0.o] at hPI;obtain ⟨pb,rfl,hpi⟩:=hPI;have hB1:=t1.least HBT.o.2.1 HBT.o.2.2.size;have hT1:=HBT.o.2.2.of ((t1.drew).below HBT.o.2.1 HBT.o.2.2.size)
 have HE:=hhh (HEnd.o pb hp w1.drew hpi (nM t1.has).drew (fun x hx=>hB1 x (by
  simp only [Own.blocks,List.map_cons,List.map_append,List.mem_cons,List.mem_append] at hx |-
  exact .inr (.inr (.inr hx)))) hT1)
 have T1:=hhh t1.drew;have A1:=hhh a1;clear a1 t1 HTk ht hpi hB1 hT1 HEnd;go_wp2_with (fail);go_region_with (first | (go_at_call 86;refine HE.o.mono ?_;rintro e w2 ⟨hp2,rfl,i2,t2'⟩;have T2:=hhh (T1.o.trans (lV t2' T1.o.has));have I2:=hhh i2;clear i2 t2'))
 all_goals
  have HA:=hhh (Queue.fB (eT T2.o.has) A1.o.q 1 rfl ⟨t2.toArray⟩ (by have:=HO.o;show s.out.length + t2.length <= 1000000000000;omega));clear HE;go_wp2_with (fail);refine HA.o.mono ?_;rintro e w3 ⟨⟨v,rfl⟩,lv3,hq3,q3,t3⟩;have T3:=hhh (T2.o.trans (eI t3 T2.o.has));have I3:=hhh (show Is ({ s with inb:=l,out:=s.out ++ t2,p:=some p2 }:St) sb _ from ⟨rb,bb,r',lv3,.pointer (some ⟨pb,0,none⟩),hq3,hp2,⟨A1.o.f,A1.o.l,A1.o.a.trans HL.o,q3,pb,rfl,I2.o⟩,rfl⟩);have HF:=hhh (fC I3.o T3.o.has e2 true (by have:=HO.o;show (s.out ++ t2).length <= _;rw [List.length_append];omega));clear q3 t3 HA;by_cases h0:e2=0
  ·have H0:=hhh (HR1.o h0)
   have hne:((e2:Int) != 0)=false:=by rw [h0];rfl
   clear h0;go_wp2;go_end0;exact ⟨⟨_,rfl⟩,_,H0.o ▸ I3.o,T3.o⟩
  ·have hne:((e2:Int) != 0)=true:=by rw [bne_iff_ne];omega
   have H0:=hhh (HR2.o h0);clear h0;go_wp2_with (fail);refine HF.o.mono ?_;rintro e w4 ⟨⟨v,rfl⟩,h',i',t'⟩;have H:=hhh (And.intro i' (T3.o.trans t'));clear i' t' HF;go_wp2;go_end0;exact ⟨⟨_,rfl⟩,h',H0.o ▸ H.o.1,H.o.2⟩
end
end Ses
end
end Go.Proofs.YtfheacchdfdeiaaGreat
