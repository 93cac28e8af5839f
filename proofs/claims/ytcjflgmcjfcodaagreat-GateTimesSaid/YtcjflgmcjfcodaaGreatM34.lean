/- Texts of the walk, joined. -/
import Derived.Test.YtcjflgmcjfcodaaGreatM04
import Derived.Test.YtcjflgmcjfcodaaGreatM06
import Derived.Test.YtcjflgmcjfcodaaGreatM07
import Derived.Test.YtcjflgmcjfcodaaGreatM09
import Derived.Test.YtcjflgmcjfcodaaGreatM10
import Derived.Test.YtcjflgmcjfcodaaGreatM12
import Derived.Test.YtcjflgmcjfcodaaGreatM14
import Derived.Test.YtcjflgmcjfcodaaGreatM22
import Derived.Test.YtcjflgmcjfcodaaGreatM24
import Derived.Test.YtcjflgmcjfcodaaGreatM33
import Derived.Below
import Derived.BigQuiet
import Derived.ChangeArms
import Derived.Deep.Slices
import Derived.Lib.Bytealg
import Derived.WideShapes
import GoSem.ClaimJoined
import GoSem.Claims
set_option maxRecDepth 100000
set_option maxHeartbeats 8000000
namespace Go.Proofs.Tryz end Go.Proofs.Tryz
namespace Go.Proofs.YtcjflgmcjfcodaaGreat
open Go.Proofs.Tryz
section
namespace Base
def pJ : List UInt8 := [65, 66, 67, 68, 69, 70, 71, 72, 73, 74, 75, 76, 77, 78, 79, 80, 81, 82, 83, 84, 85, 86, 87, 88, 89, 90, 97, 98, 99, 100, 101, 102, 103, 104, 105, 106, 107, 108, 109, 110, 111, 112, 113, 114, 115, 116, 117, 118, 119, 120, 121, 122, 48, 49, 50, 51, 52, 53, 54, 55, 56, 57, 45, 95]
def sign (k : Nat) : UInt8 := pJ.getD k 0
def zM (v : Nat) : Nat → List UInt8
 | n + 6 => sign (v / 2 ^ n % 64) :: zM v n
 | _ => []
def gA : List UInt8 → Nat → Nat → List UInt8
 | [], v, n => if 0 < n then [sign (v * 2 ^ (6 - n) % 64)] else []
 | b :: l, v, n => zM (v * 256 + b.toNat) (n + 8) ++ gA l ((v * 256 + b.toNat) % 2 ^ ((n + 8) % 6)) ((n + 8) % 6)
def put (l : List UInt8) : List UInt8 := gA l 0 0
theorem aGx (k : Nat) (h : k < 64) : pJ[k]? = some (sign k) := by
 unfold sign
 rw [List.getD_eq_getElem?_getD]
 have : k < pJ.length := h
 simp [List.getElem?_eq_getElem this]
theorem vV (b : UInt8) (l : List UInt8) (v : Nat) : gA (b :: l) v 0 = sign ((v * 256 + b.toNat) / 4 % 64) :: gA l ((v * 256 + b.toNat) % 4) 2 := by
 simp [gA, zM]
theorem aAv (b : UInt8) (l : List UInt8) (v : Nat) : gA (b :: l) v 2 = sign ((v * 256 + b.toNat) / 16 % 64) :: gA l ((v * 256 + b.toNat) % 16) 4 := by
 simp [gA, zM]
theorem aGb (b : UInt8) (l : List UInt8) (v : Nat) : gA (b :: l) v 4 = sign ((v * 256 + b.toNat) / 64 % 64) :: sign ((v * 256 + b.toNat) % 64) :: gA l 0 0 := by
 simp [gA, zM, Nat.mod_one]
def val (c : UInt8) : Int := Lib.indexByte pJ c
def aIv : List UInt8 → Nat → Nat → List UInt8 → Option (List UInt8)
 | [], _, _, out => some out
 | c :: l, v, n, out =>
  if val c < 0 then none
  else if 2 ≤ n then aIv l ((v * 64 + (val c).toNat) % 2 ^ (n - 2)) (n - 2) (out ++ [UInt8.ofNat ((v * 64 + (val c).toNat) / 2 ^ (n - 2))])
  else aIv l ((v * 64 + (val c).toNat) % 2 ^ (n + 6)) (n + 6) out
def get (l : List UInt8) : Option (List UInt8) :=
 match aIv l 0 0 [] with
 | none => none
 | some out => if put out = l then some out else none
def len (n : Int) : Int := if n < 0 ∨ 1000000 < n then 0 else n / 3 * 4 + (n % 3 * 4 + 2) / 3
theorem aM1 (a b c : UInt8) (l : List UInt8) : put (a :: b :: c :: l) =
  sign (a.toNat / 4 % 64) :: sign ((a.toNat % 4 * 256 + b.toNat) / 16 % 64) :: sign (((a.toNat % 4 * 256 + b.toNat) % 16 * 256 + c.toNat) / 64 % 64) :: sign (((a.toNat % 4 * 256 + b.toNat) % 16 * 256 + c.toNat) % 64) :: put l := by
 unfold put
 rw [vV, aAv, aGb, Nat.zero_mul, Nat.zero_add]
theorem lJ : ∀ l : List UInt8, (put l).length = (4 * l.length + 2) / 3
 | [] => rfl
 | [a] => by unfold put; rw [vV]; simp [gA]
 | [a, b] => by unfold put; rw [vV, aAv]; simp [gA]
 | a :: b :: c :: l => by
  have := lJ l
  rw [aM1]
  simp only [List.length_cons]
  omega
end Base
end
section
open Go.RowKit
namespace Put
def signText:ByteArray:=⟨Base.pJ.toArray⟩
theorem kR (y:Nat) (hy:y < 64) (h:y < signText.size):signText[y]'h=Base.sign y:=by
 have h1:Base.pJ[y]? = some (Base.sign y):=Base.aGx y hy;have h2:y < Base.pJ.length:=hy;rw [List.getElem?_eq_getElem h2] at h1;have h3:=Option.some.inj h1;rw [<- h3];rfl
theorem wb (B : Nat) (acc : List UInt8) (c : UInt8) (w : World) (h : Lib.IsBuilderF 115 5 B B (Lib.byteCells acc) w) (hlen : acc.length ≤ 10000000) (hBw : B ≤ w.heap.size) (n : Int) (hn : n = c.toNat) :
  Calls prog 220 #[.pointer (some ⟨B,0,none⟩),.int .u8 n] w fun e w'=>e = .returned .nilIface /\ Lib.IsBuilderF 115 5 B B (Lib.byteCells (acc ++ [c])) w' /\ Below B w w':=by
 subst hn;refine (Bld.aDw B B _ _ w h (by rw [Lib.byteCells_length];omega) hBw).mono ?_;rintro e w' ⟨he,h1,h2,_⟩;exact ⟨he,.inr (by rw [Lib.byteCells_append];exact h1),h2⟩
theorem any (s : ByteArray) (w : World) (hs : s.size ≤ 1000000) :
  Calls prog 216 #[.string s] w fun e w'=>e = .returned (.string ⟨(Base.put s.data.toList).toArray⟩) /\ Below w.heap.size w w':=by
 go_enter func216,ntmps216;go_wp2
 go_loopw [4, 5, 9] (fun v n i wr => ∃ (k vn nn : Nat) (acc : List UInt8), i = .int .i64 k ∧ k ≤ s.size ∧ v = .int .i64 vn ∧ n = .int .i64 nn ∧ nn = 2 * (k % 3) ∧ vn < 2 ^ nn ∧
   Lib.IsBuilderF 115 5 w.heap.size w.heap.size (Lib.byteCells acc) wr /\ Below w.heap.size w wr /\ acc.length <= 2 * k /\
   acc ++ Base.gA (s.data.toList.drop k) vn nn=Base.put s.data.toList) (fun _ _ i _=>s.size - (intOf i).toNat)
 case atStart =>
  refine ⟨0,0,0,[],rfl,by omega,rfl,rfl,by omega,by omega,Lib.IsBuilderF.of (Lib.fresh_isBuilder _ _ w),(Below.refl _ w).alloc (Nat.le_refl _) _,by simp,by simp [Base.put]⟩
 case round =>
  obtain ⟨k,vn,nn,acc,rfl,hk,rfl,rfl,hn,hv,hI,hbw,hal,heq⟩:=hrel;by_cases hlt:k < s.size
  ·have hc:=(s[k]'hlt).toNat_lt
   have hv16:vn < 16:=Nat.lt_of_lt_of_le hv (Nat.pow_le_pow_right (n:=2) (by decide) (show nn <= 4 by omega));obtain ⟨x,hx⟩:∃ x:Nat,x=vn * 256 + (s[k]'hlt).toNat:=⟨_,rfl⟩;have hor:=Int64.aMv vn (s[k]'hlt).toNat (by omega) hc;rw [<- hx] at hor;have hx4:x < 4096:=by omega
   have Hx:=hhh hx;have Heq:=hhh heq;have Hn:=hhh hn;have Hv:=hhh hv;clear hx heq hv;have hBw:w.heap.size <= wr.heap.size:=hbw.size;have hdrop:s.data.toList.drop k=s[k]'hlt :: s.data.toList.drop (k + 1):=List.drop_eq_getElem_cons (by simpa using hlt);have Hd:=hhh hdrop;clear hdrop;rcases (show k % 3=0 \/ k % 3=1 \/ k % 3=2 by omega) with h3 | h3 | h3
   ·rw [h3] at hn
    subst hn;have H3:=hhh h3;clear h3;obtain ⟨y,hy⟩:∃ y:Nat,y=x / 4 % 64:=⟨_,rfl⟩;obtain ⟨z,hz⟩:∃ z:Nat,z=x % 4:=⟨_,rfl⟩;have han:bits .and .i64 ((x:Int) / 4) 63=(y:Int):=by
     have:=Int64.uH (x / 4) (by omega);rw [hy,<- this];rfl
    have hma:bits .and .i64 (x:Int) 3=(z:Int):=by
     have:=Int64.vG x 2 (by decide) (by omega);rw [hz,<- show x % 2 ^ 2=x % 4 from rfl,<- this];rfl
    have hy6:y < 64:=by omega
    have Hy:=hhh hy;have Hz:=hhh hz;clear hy hz;go_wp2;refine wp_loop_rounds 3 ?_;rw [rounds_succ];go_wp2_with (fail);refine (wb w.heap.size acc (Base.sign y) wr hI (by omega) hBw _ (congrArg (fun u:UInt8=>(u.toNat:Int)) (kR y hy6 hy6))).mono ?_;rintro e W1 ⟨rfl,h1,b1⟩;go_wp2;rw [rounds_succ];go_wp2;go_roundw
    case rel =>
     refine ⟨k + 1,z,2,acc ++ [Base.sign y],by go_num,by omega,rfl,rfl,by have:=H3.o;omega,by have:=Hz.o;omega,h1,hbw.trans b1,by simp;omega,?_⟩;rw [<- Heq.o,Hd.o,Base.vV,<- Hx.o,<- Hy.o,<- Hz.o];simp
    case measure=>simp [intOf];omega
   ·rw [h3] at hn
    subst hn;have H3:=hhh h3;clear h3;obtain ⟨y,hy⟩:∃ y:Nat,y=x / 16 % 64:=⟨_,rfl⟩;obtain ⟨z,hz⟩:∃ z:Nat,z=x % 16:=⟨_,rfl⟩;have han:bits .and .i64 ((x:Int) / 16) 63=(y:Int):=by
     have:=Int64.uH (x / 16) (by omega);rw [hy,<- this];rfl
    have hma:bits .and .i64 (x:Int) 15=(z:Int):=by
     have:=Int64.vG x 4 (by decide) (by omega);rw [hz,<- show x % 2 ^ 4=x % 16 from rfl,<- this];rfl
    have hy6:y < 64:=by omega
    have Hy:=hhh hy;have Hz:=hhh hz;clear hy hz;go_wp2;refine wp_loop_rounds 3 ?_;rw [rounds_succ];go_wp2_with (fail);refine (wb w.heap.size acc (Base.sign y) wr hI (by omega) hBw _ (congrArg (fun u:UInt8=>(u.toNat:Int)) (kR y hy6 hy6))).mono ?_;rintro e W1 ⟨rfl,h1,b1⟩;go_wp2;rw [rounds_succ];go_wp2;go_roundw
    case rel =>
     refine ⟨k + 1,z,4,acc ++ [Base.sign y],by go_num,by omega,rfl,rfl,by have:=H3.o;omega,by have:=Hz.o;omega,h1,hbw.trans b1,by simp;omega,?_⟩;rw [<- Heq.o,Hd.o,Base.aAv,<- Hx.o,<- Hy.o,<- Hz.o];simp
    case measure=>simp [intOf];omega
   ·rw [h3] at hn
    subst hn;have H3:=hhh h3;clear h3;obtain ⟨y,hy⟩:∃ y:Nat,y=x / 64 % 64:=⟨_,rfl⟩;obtain ⟨y2,hy2⟩:∃ y:Nat,y=x % 64:=⟨_,rfl⟩;have han:bits .and .i64 ((x:Int) / 64) 63=(y:Int):=by
     have:=Int64.uH (x / 64) (by omega);rw [hy,<- this];rfl
    have han2:bits .and .i64 (x:Int) 63=(y2:Int):=by
     rw [hy2,<- Int64.uH x (by omega)]
    have hma:bits .and .i64 (x:Int) 0=0:=by
     have:=Int64.vG x 0 (by decide) (by omega);simpa [Nat.mod_one] using this
    have hy6:y < 64:=by omega
    have hy26:y2 < 64:=by omega
    have Hy:=hhh hy;have Hy2:=hhh hy2;clear hy hy2;go_wp2;refine wp_loop_rounds 3 ?_;rw [rounds_succ];go_wp2_with (fail);refine (wb w.heap.size acc (Base.sign y) wr hI (by omega) hBw _ (congrArg (fun u:UInt8=>(u.toNat:Int)) (kR y hy6 hy6))).mono ?_;rintro e W1 ⟨rfl,h1,b1⟩;go_wp2;rw [rounds_succ];go_wp2_with (fail);refine (wb w.heap.size _ (Base.sign y2) W1 h1 (by rw [lla];show acc.length + 1 <= _;omega) (by have:=b1.size;omega) _ (congrArg (fun u:UInt8=>(u.toNat:Int)) (kR y2 hy26 hy26))).mono ?_;rintro e W2 ⟨rfl,h2,b2⟩;go_wp2;rw [rounds_succ];go_wp2;go_roundw
    case rel =>
     refine ⟨k + 1,0,0,acc ++ [Base.sign y] ++ [Base.sign y2],by go_num,by omega,rfl,rfl,by have:=H3.o;omega,by omega,h2,(hbw.trans b1).trans b2,by simp;omega,?_⟩;rw [<- Heq.o,Hd.o,Base.aGb,<- Hx.o,<- Hy.o,<- Hy2.o];simp
    case measure=>simp [intOf];omega
  ·have hdrop:s.data.toList.drop k=[]:=by
    apply List.drop_eq_nil_of_le;have:s.data.toList.length=s.size:=Array.length_toList;omega
   rw [hdrop] at heq;have hv16:vn < 16:=Nat.lt_of_lt_of_le hv (Nat.pow_le_pow_right (n:=2) (by decide) (show nn <= 4 by omega));have Heq:=hhh heq;have Hv:=hhh hv;clear heq hdrop hv;have hBw:w.heap.size <= wr.heap.size:=hbw.size;rcases (show k % 3=0 \/ k % 3=1 \/ k % 3=2 by omega) with h3 | h3 | h3
   ·rw [h3] at hn
    subst hn;clear h3;go_wp2_with (fail);refine (Tryz.Builder_String_any_k w.heap.size w.heap.size _ _ hI (by omega)).mono ?_;rintro e W2 ⟨rfl,_,b2,_⟩;go_wp2;go_ret;refine ⟨?_,hbw.trans b2⟩;rw [<- Heq.o];simp [Base.gA]
   ·rw [h3] at hn
    subst hn;clear h3;obtain ⟨y,hy⟩:∃ y:Nat,y=vn * 16 % 64:=⟨_,rfl⟩;have hvm:vn < 4:=Hv.o;have han:bits .and .i64 ((vn:Int) * 16) 63=(y:Int):=by
     have:=Int64.uH (vn * 16) (by omega);rw [hy,<- this];rfl
    have hy6:y < 64:=by omega
    have Hy:=hhh hy;clear hy;go_wp2_with (fail);refine (wb w.heap.size acc (Base.sign y) wr hI (by omega) hBw _ (congrArg (fun u:UInt8=>(u.toNat:Int)) (kR y hy6 hy6))).mono ?_;rintro e W1 ⟨rfl,h1,b1⟩;go_wp2_with (fail);refine (Tryz.Builder_String_any_k w.heap.size w.heap.size _ _ h1 (by have:=b1.size;omega)).mono ?_;rintro e W2 ⟨rfl,_,b2,_⟩;go_wp2;go_ret;refine ⟨?_,(hbw.trans b1).trans b2⟩;rw [<- Heq.o];simp [Base.gA,Hy.o]
   ·rw [h3] at hn
    subst hn;clear h3;obtain ⟨y,hy⟩:∃ y:Nat,y=vn * 4 % 64:=⟨_,rfl⟩;have hvm:vn < 16:=Hv.o;have han:bits .and .i64 ((vn:Int) * 4) 63=(y:Int):=by
     have:=Int64.uH (vn * 4) (by omega);rw [hy,<- this];rfl
    have hy6:y < 64:=by omega
    have Hy:=hhh hy;clear hy;go_wp2_with (fail);refine (wb w.heap.size acc (Base.sign y) wr hI (by omega) hBw _ (congrArg (fun u:UInt8=>(u.toNat:Int)) (kR y hy6 hy6))).mono ?_;rintro e W1 ⟨rfl,h1,b1⟩;go_wp2_with (fail);refine (Tryz.Builder_String_any_k w.heap.size w.heap.size _ _ h1 (by have:=b1.size;omega)).mono ?_;rintro e W2 ⟨rfl,_,b2,_⟩;go_wp2;go_ret;refine ⟨?_,(hbw.trans b1).trans b2⟩;rw [<- Heq.o];simp [Base.gA,Hy.o]
end Put
end
section
open Go.RowKit
open Json (Part Wr Txt)
namespace Pip
open Esc (bA bP)
theorem aCp (l:List UInt8):((⟨#[34]⟩:ByteArray) ++ ⟨l.toArray⟩ ++ ⟨#[34]⟩)=⟨(34 :: (l ++ [34])).toArray⟩:=by
 apply ByteArray.ext;simp
def okT:Part -> Prop
 | .whole _ m=>m < 18446744073709551616
 | .word s=>s.size <= 1000 /\ Esc.Val s.data.toList
 | .cW s=>s.size <= 1000
 | .other _=>False
 | _=>True
def aO (T:bA):Part -> List UInt8
 | .bool true=>[116,114,117,101]
 | .bool false=>[102,97,108,115,101]
 | .whole n m=>Fmt.dec T n m
 | .word s=>34 :: (Esc.iO T s ++ [34])
 | .cW s=>34 :: (Base.put s.data.toList ++ [34])
 | _=>[110,117,108,108]
theorem kZ (T:bA) (s:ByteArray):(Esc.iO T s).length <= 6 * (s.size + 1):=Esc.jW T s (s.size + 1) 0
theorem aE7 (T : bA) (p : Part) (hp : okT p) (w : World) (hT : bP T w) :
  Calls prog 213 #[p.val] w fun r w'=>r = .returned (.string ⟨(aO T p).toArray⟩) /\ Below w.heap.size w w':=by
 have B0:=hhh (fun o=>(Below.refl w.heap.size w).alloc (Nat.le_refl _) o);have HT:=hhh (fun (o:Obj)=>hT.of ((B0.o o).mono hT.size));have bel:∀ {W:World} {o:Obj},Below (w.alloc o).heap.size (w.alloc o) W -> Below w.heap.size w W:=fun {W o} b=>(B0.o o).trans (b.mono (by rw [Json.size_alloc];omega))
 have Bel:=@hhh _ @bel;clear bel hT;have a1:=Json.asBool p;have a2:=Json.mR p;have a3:=Json.jA p;have a4:=Json.rW p;obtain ⟨V,hV⟩:∃ V,V=p.val:=⟨_,rfl⟩;rw [<- hV] at a1 a2 a3 a4 |-;clear hV
 cases p with
 | whole n m =>
  simp only [Json.Part.isBool,Json.Part.inBool,Json.Part.isWhole,Json.Part.inWhole,Json.Part.isWord,Json.Part.inWord,Json.Part.isBlob,Json.Part.inBlob] at a1 a2 a3 a4;have HP:=hhh (show m < 18446744073709551616 from hp);clear hp;go_enter func213,ntmps213;go_wp2_with (fail);refine (Fmt.aEn T n m HP.o _ (HT.o _)).mono ?_;rintro e W ⟨rfl,b⟩;go_wp2;go_ret;exact ⟨rfl,Bel.o b⟩
 | word s =>
  simp only [Json.Part.isBool,Json.Part.inBool,Json.Part.isWhole,Json.Part.inWhole,Json.Part.isWord,Json.Part.inWord,Json.Part.isBlob,Json.Part.inBlob] at a1 a2 a3 a4;have hs:s.size <= 1000:=hp.1;have hv:=hhh hp.2.sound;have hq:=hhh (aCp (Esc.iO T s));have HF:=hhh (fun W (t:bP T W)=>Esc.aB5 T s W (by omega) t hv.o);have hsz:(⟨(Esc.iO T s).toArray⟩:ByteArray).size <= 6006:=by
   rw [show (⟨(Esc.iO T s).toArray⟩:ByteArray).size=(Esc.iO T s).length from List.size_toArray ..];have:=kZ T s;omega
  obtain ⟨S,hS⟩:∃ S:ByteArray,S=⟨(Esc.iO T s).toArray⟩:=⟨_,rfl⟩;rw [<- hS] at hsz HF hq;clear hS hs hp;go_enter func213,ntmps213;go_wp2_with (fail);refine (HF.o _ (HT.o _)).mono ?_;rintro e W ⟨rfl,b⟩;go_wp2;go_ret;exact ⟨Own.aZ hq.o,Bel.o b⟩
 | cW s =>
  simp only [Json.Part.isBool,Json.Part.inBool,Json.Part.isWhole,Json.Part.inWhole,Json.Part.isWord,Json.Part.inWord,Json.Part.isBlob,Json.Part.inBlob] at a1 a2 a3 a4;have hs:s.size <= 1000:=hp;have hq:=hhh (aCp (Base.put s.data.toList));have HF:=hhh (fun W=>Put.any s W (by omega));have hsz:(⟨(Base.put s.data.toList).toArray⟩:ByteArray).size <= 6000:=by
   rw [show (⟨(Base.put s.data.toList).toArray⟩:ByteArray).size=(Base.put s.data.toList).length from List.size_toArray ..];have:=Base.lJ s.data.toList;have hl:s.data.toList.length=s.size:=Array.length_toList;omega
  obtain ⟨S,hS⟩:∃ S:ByteArray,S=⟨(Base.put s.data.toList).toArray⟩:=⟨_,rfl⟩;rw [<- hS] at hsz HF hq;clear hS hs hp;go_enter func213,ntmps213;go_wp2_with (fail);refine (HF.o _).mono ?_;rintro e W ⟨rfl,b⟩;go_wp2;go_ret;exact ⟨Own.aZ hq.o,Bel.o b⟩
 | bool y =>
  simp only [Json.Part.isBool,Json.Part.inBool,Json.Part.isWhole,Json.Part.inWhole,Json.Part.isWord,Json.Part.inWord,Json.Part.isBlob,Json.Part.inBlob] at a1 a2 a3 a4;clear hp
  cases y
  all_goals go_enter func213,ntmps213
  all_goals go_wp2
  all_goals go_ret
  all_goals exact ⟨rfl,Below.refl _ _⟩
 | _ =>
  simp only [Json.Part.isBool,Json.Part.inBool,Json.Part.isWhole,Json.Part.inWhole,Json.Part.isWord,Json.Part.inWord,Json.Part.isBlob,Json.Part.inBlob] at a1 a2 a3 a4;clear hp;go_enter func213,ntmps213;go_wp2;go_ret;exact ⟨rfl,B0.o _⟩
theorem mI (T:bA):Txt okT (aO T) Esc.tabsEnd (bP T) where
 len p hp:=by
  cases p with
  | bool b=>cases b <;> simp [aO]
  | whole n m=>have:=Fmt.aBv T n m hp;show (Fmt.dec T n m).length <= _;omega
  | word s =>
   have:=kZ T s;have:s.size <= 1000:=hp.1;show (34 :: (Esc.iO T s ++ [34])).length <= _;simp only [List.length_cons,lla,List.length_nil];omega
  | cW s =>
   have:=Base.lJ s.data.toList;have hs:s.data.toList.length=s.size:=Array.length_toList;have:s.size <= 1000:=hp;show (34 :: (Base.put s.data.toList ++ [34])).length <= _;simp only [List.length_cons,lla,List.length_nil];omega
  | _=>simp [aO]
 any p hp u hT:=aE7 T p hp u hT
 of u v hT b:=hT.of b
end Pip
end
section
open Go.RowKit
open Json (Part Wr Txt)
namespace Pip
open Esc (bA bP)
theorem okT.of {v:Part} (h:Fine v) (hw:WV v):okT v:=by
 cases v with
 | whole n m=>exact h.small
 | word s=>exact ⟨h.small,hw s rfl⟩
 | cW s=>exact h.small
 | other b=>have:=h.may;cases this
 | _=>trivial
theorem Reader.V.new (f:Int) (d:Nat):(Reader.new f d).V:=by
 unfold Reader.new;split
 ·exact ⟨fun _ h=>absurd (show (0:Nat)=1 from h) (by decide)⟩
 ·split
  ·exact aAs.new d
  ·exact oQ.new d
theorem Reader.V.step {r:Reader} (h:r.V) (b:UInt8):(r.step b).1.V /\ ∀ v ∈ (r.step b).2.1,WV v:=by
 cases r with
 | json p=>exact Jin.aKl h b
 | bB p =>
  show aAs (p.step b).1 /\ ∀ v ∈ (p.step b).2.1,WV v;unfold Cin.step;split
  ·exact ⟨h,fun _ hv=>by cases hv⟩
  ·rename_i k
   have o:=nC.act h (by simpa using k) b (Hd.xM b) (fun hb=>Hd.qA p.h b hb) (fun h0=>Hd.qY p.h b h0);exact ⟨o.p,o.told⟩
 | pack p =>
  show oQ (p.step b).1 /\ ∀ v ∈ (p.step b).2.1,WV v;unfold Pin.step;split
  ·exact ⟨h,fun _ hv=>by cases hv⟩
  ·rename_i k
   have o:=iA.act h (by simpa using k) b;exact ⟨o.p,o.told⟩
theorem Reader.V.fin {r:Reader} (h:r.V):∀ v ∈ r.fin.2.1,WV v:=by
 cases r with
 | json p=>exact Jin.aLo h
 | bB p=>exact fun _ hv=>by cases hv
 | pack p=>exact fun _ hv=>by cases hv
theorem Pp.aLi (text:Part -> List UInt8) {p:Pp} (h:p.input.V) (x:UInt8):(p.step text x).1.input.V:=by
 unfold Pp.step;split
 ·exact h
 ·rw [Pp.nU]
  exact (h.step x).1
theorem Pp.aCl (text:Part -> List UInt8):∀ (l:List UInt8) {p:Pp},p.input.V -> (p.all text l).1.input.V
 | [],_,h=>h
 | x :: l,_,h=>Pp.aCl text l (Pp.aLi text h x)
theorem Pp.aCq {p:Pp} {n:Nat} (hf:p.Fits n) (h:p.input.V) (x:UInt8):∀ v ∈ (p.input.step x).2.1,okT v :=
 fun v hv=>.of ((Reader.eU hf.input x).fine v hv) ((h.step x).2 v hv)
theorem Pp.aHj {p:Pp} {n:Nat} (hf:p.Fits n) (h:p.input.V):∀ v ∈ p.input.fin.2.1,okT v :=
 fun v hv=>.of ((Reader.qJ hf.input).fine v hv) (h.fin v hv)
theorem Pp.yF (text:Part -> List UInt8) (s:Setup) (hr:right s=true) (b:List UInt8):(Pp.new s).Told okT text b :=
 ⟨fun j _ _=>Pp.aCq (Pp.Fits.all text (b.take j) (Pp.Fits.new s hr)) (Pp.aCl text _ (Reader.V.new _ _)) _,
  fun _=>Pp.aHj (Pp.Fits.all text b (Pp.Fits.new s hr)) (Pp.aCl text _ (Reader.V.new _ _))⟩
end Pip
end
section
namespace Pip
open Json (Part Wr)
theorem Jin.aJa (p:Jin) (t:Tok):(p.value t).1.depth=p.depth:=by
 unfold Jin.value
 repeat' split
 all_goals rfl
theorem Jin.aC1 (p:Jin) (t:Tok):(p.token t).1.depth=p.depth:=by
 unfold Jin.token
 repeat' split
 all_goals first | rfl | exact Jin.aJa _ _
theorem Jin.parts_d:∀ (l:List Tok) (p:Jin) (e:Nat),(p.parts l e).1.depth=p.depth
 | [],_,_=>rfl
 | t :: l,p,e=>by
  unfold Jin.parts
  split
  ·exact Jin.aC1 p t
  ·exact (Jin.parts_d l _ e).trans (Jin.aC1 p t)
theorem Jin.lL (p:Jin) (b:UInt8):(p.step b).1.depth=p.depth:=by
 unfold Jin.step;split
 ·rfl
 ·exact Jin.parts_d _ _ _
theorem Core.vL (c:Core) (m:Bool) (n:Int):(c.begin m n).1.depth=c.depth:=by
 unfold Core.begin;split <;> rfl
theorem Core.aJl (c:Core):c.break.1.depth=c.depth:=by
 unfold Core.break
 repeat' split
 all_goals rfl
theorem Core.qN (c:Core) (w:Bool) (n:Nat):(c.length w n).1.depth=c.depth:=by
 unfold Core.length
 dsimp only
 repeat' split
 all_goals rfl
theorem Core.aGy (c:Core) (b:UInt8):(c.byte b).1.depth=c.depth:=by
 unfold Core.byte
 repeat' split
 all_goals rfl
theorem Cin.pU (p:Cin) (m v:Nat) (o:Bool):(p.behind m v o).1.c.depth=p.c.depth:=by
 unfold Cin.behind
 repeat' split
 all_goals first | rfl | exact Core.qN _ _ _ | exact Core.vL _ _ _
theorem Cin.aA1 (p:Cin) (b:UInt8):(p.head b).1.c.depth=p.c.depth:=by
 unfold Cin.head
 dsimp only
 repeat' split
 all_goals first | rfl | exact Cin.pU _ _ _ _
theorem Cin.aIr (p:Cin) (n:Nat):(p.simple n).1.c.depth=p.c.depth:=by
 unfold Cin.simple
 repeat' split
 all_goals rfl
theorem Cin.lL (p:Cin) (b:UInt8):(p.step b).1.c.depth=p.c.depth:=by
 unfold Cin.step;split
 ·rfl
 ·show (p.act b).1.c.depth=_
  unfold Cin.act;split
  ·exact Core.aGy _ _
  ·split
   ·exact Cin.aA1 _ _
   ·split
    ·unfold Cin.chunk
     split
     ·rfl
     ·by_cases k:b.toNat / 32 ≠ (if p.c.word then 3 else 2) \/ b.toNat % 32=31
      ·rw [ifp k];rfl
      ·rw [ifn k];exact Cin.aA1 _ _
    ·unfold Cin.item
     dsimp only
     repeat' split
     all_goals first | rfl | exact Core.aJl _ | exact Cin.aIr _ _ | exact Cin.aA1 _ _
theorem Pin.aMa {c:Prop} [Decidable c] {a b:Pin × List Part} {d:Nat} (ha:a.1.c.depth=d) (hb:b.1.c.depth=d):(if c then a else b).1.c.depth=d:=by
 split
 ·exact ha
 ·exact hb
theorem Pin.aC8 (p:Pin) (m:Bool) (n:Nat):(p.count m n).1.c.depth=p.c.depth:=by
 unfold Pin.count;split
 ·rfl
 ·exact Core.vL _ _ _
theorem Pin.pU (p:Pin) (k v:Nat):(p.behind k v).1.c.depth=p.c.depth:=by
 unfold Pin.behind
 repeat' split
 all_goals first | rfl | exact Core.qN _ _ _ | exact Pin.aC8 _ _ _
theorem Pin.lL (p:Pin) (b:UInt8):(p.step b).1.c.depth=p.c.depth:=by
 unfold Pin.step;split
 ·rfl
 ·show (p.act b).1.c.depth=_
  unfold Pin.act;split
  ·exact Core.aGy _ _
  ·split
   ·unfold Pin.number
    dsimp only
    split
    ·rfl
    ·exact Pin.pU _ _ _
   ·unfold Pin.item Pin.long
    dsimp only
    repeat' (refine Pin.aMa ?_ ?_)
    all_goals first | rfl | exact Core.qN _ _ _ | exact Pin.aC8 _ _ _ | exact Core.vL _ _ _
theorem Reader.lL (r:Reader) (b:UInt8):(r.step b).1.depth=r.depth:=by
 cases r with
 | json p=>exact Jin.lL p b
 | bB p=>exact Cin.lL p b
 | pack p=>exact Pin.lL p b
theorem Reader.Fits.held {r:Reader} {n:Nat} (h:r.Fits n):r.held <= 200 + r.depth:=by
 cases r with
 | json p=>exact Jin.Fits.held h
 | bB p=>exact Core.Fits.held (show p.Fits n from h).c
 | pack p=>exact Core.Fits.held (show p.Fits n from h).c
theorem Stg.pZ (s:Stg) (v:Part):(s.hold v).1.limit <= s.limit:=by
 unfold Stg.hold;split
 ·exact Nat.zero_le _
 ·exact Nat.le_refl _
theorem Stg.rP (s:Stg) (v:Part):(s.step v).1.limit <= s.limit:=by
 unfold Stg.step;split
 ·exact Nat.le_refl _
 ·split
  ·exact Nat.le_refl _
  ·split
   ·exact Nat.le_refl _
   ·split
    ·unfold Stg.close
     split
     ·exact Nat.le_refl _
     ·dsimp only
      split
      ·exact Stg.pZ _ _
      ·exact Nat.le_refl _
    ·exact Stg.pZ _ _
def Pp.fK (p:Pp) (g:Nat):Prop:=∀ s,p.hold=some s -> s.limit <= g
theorem Pp.fK.one {p:Pp} {g:Nat} (h:p.fK g) (text:Part -> List UInt8) (v:Part):(p.one text v).1.fK g:=by
 unfold Pp.one;split
 ·exact fun s hs=>by cases hs
 ·rename_i s hs
  have:=h s hs;split
  ·intro x hx;cases hx;exact Nat.le_trans (Stg.rP s v) this
  ·intro x hx;cases hx;exact Nat.le_trans (Stg.rP s v) this
theorem Pp.fK.write (text:Part -> List UInt8) {g:Nat}:∀ (l:List Part) {p:Pp} (e:Nat),p.fK g -> (p.write text l e).1.fK g
 | [],_,_,h=>h
 | v :: l,p,e,h=>by
  unfold Pp.write
  split
  ·exact h.one text v
  ·exact Pp.fK.write text l e (h.one text v)
theorem Pp.fK.step {p:Pp} {g:Nat} (h:p.fK g) (text:Part -> List UInt8) (x:UInt8):(p.step text x).1.fK g /\ (p.step text x).1.input.depth=p.input.depth:=by
 unfold Pp.step;split
 ·exact ⟨h,rfl⟩
 ·refine ⟨Pp.fK.write text _ _ h,?_⟩
  rw [Pp.nU];exact Reader.lL _ _
theorem Pp.fK.all (text:Part -> List UInt8) {g:Nat}:∀ (l:List UInt8) {p:Pp},p.fK g -> (p.all text l).1.fK g /\ (p.all text l).1.input.depth=p.input.depth
 | [],_,h=>⟨h,rfl⟩
 | x :: l,p,h=>by
  have h1:=h.step text x
  have h2:=Pp.fK.all text l h1.1
  exact ⟨h2.1,h2.2.trans h1.2⟩
theorem Pp.sX (s:Setup):(Pp.new s).fK s.stage.toNat:=by
 intro x hx;unfold Pp.new at hx
 dsimp only at hx
 split at hx
 ·cases hx;exact Nat.le_refl _
 ·cases hx
theorem Pp.tW (s:Setup):(Pp.new s).input.depth=s.depth.toNat:=by
 show (Reader.new s.from_ s.depth.toNat).depth=_;unfold Reader.new;split
 ·rfl
 ·split <;> rfl
theorem Pp.aKi (text:Part -> List UInt8) (s:Setup) (hr:right s=true) (l:List UInt8):((Pp.new s).all text l).1.held <= 200 + s.stage.toNat + s.depth.toNat /\ (((Pp.new s).all text l).1.may ≠ 0 -> ((Pp.new s).all text l).1.held=0):=by
 have hf:=Pp.Fits.all text l (Pp.Fits.new s hr);have hu:=Pp.fK.all text l (Pp.sX s);rw [Pp.tW] at hu;generalize ((Pp.new s).all text l).1=p at hf hu |-;have hi:=hf.input.held;rw [hu.2] at hi;unfold Pp.held;refine ⟨?_,fun h=>ifp h⟩;split
 ·exact Nat.zero_le _
 ·cases hh:p.hold with
  | none=>dsimp only;omega
  | some x =>
   have h1:=hu.1 x hh;have h2:=(hf.hold x hh).size
   dsimp only
   omega
end Pip
end
section
open Go.RowKit
namespace Esc
theorem oZ {P : Program} {w : World} {g n : Nat} {t : TypeId} {zero : Array Value} {k : IntKind} {ts : List TypeId} (h : w.ShapedOpen P) (hg : g < P.globals.size)
  (h0:((begin P (fun _ _=>0) default).world.heap[g]?).bind Obj.row? = some (zero,t)) (hz:zero.size=n) (hb:P.buildable t=true) (hc:P.cellTypes P.depth t=some ts)
  (hu:∀ u ∈ ts,P.underlying u=some (.int k)) (i:Nat) (hi:i < n):∃ m,w.cell? ⟨g,i,none⟩=some (.int k m) /\ k.min <= m /\ m <= k.max:=by
 obtain ⟨cs,hh,hs,hr⟩:=h.1 g zero t hg h0;obtain ⟨ts',hts,_,hall⟩:=hr hb;rw [hc] at hts
 cases hts
 have h1:i < cs.size:=by omega
 obtain ⟨u,hu',hok⟩:=hall i cs[i] (by simp [h1]);have hm:u ∈ ts:=List.mem_of_getElem? hu';have hcell:w.cell? ⟨g,i,none⟩=some cs[i]:=by simp [World.cell?,hh,h1]
 rw [hcell];unfold Cell.ok at hok;rw [hu u hm] at hok
 cases hv:cs[i] <;> rw [hv] at hok <;> simp at hok
 case int k' m =>
  obtain ⟨rfl,h2⟩:=hok;exact ⟨m,rfl,h2⟩
theorem aHv (w:World) (h:w.ShapedOpen prog) (i:Nat) (hi:i < 256):∃ m,w.cell? ⟨1,i,none⟩=some (.int .u8 m) /\ (IntKind.u8).min <= m /\ m <= (IntKind.u8).max :=
 oZ (t:=291) (zero:=Array.replicate 256 (.int .u8 0)) (ts:=List.replicate 256 5) h (of_decide_eq_true (by kernel_rfl)) (by kernel_rfl) (by kernel_rfl) (by kernel_rfl) (by kernel_rfl)
  (fun u hu=>by rw [List.eq_of_mem_replicate hu];exact underlying5) i hi
theorem aEo (w:World) (h:w.ShapedOpen prog) (i:Nat) (hi:i < 32):∃ m,w.cell? ⟨2,i,none⟩=some (.int .u8 m) /\ (IntKind.u8).min <= m /\ m <= (IntKind.u8).max :=
 oZ (t:=294) (zero:=Array.replicate 32 (.int .u8 0)) (ts:=List.replicate 32 5) h (of_decide_eq_true (by kernel_rfl)) (by kernel_rfl) (by kernel_rfl) (by kernel_rfl) (by kernel_rfl)
  (fun u hu=>by rw [List.eq_of_mem_replicate hu];exact underlying5) i hi
theorem aLn (w:World) (h:w.ShapedOpen prog) (i:Nat) (hi:i < 20):∃ m,w.cell? ⟨3,i,none⟩=some (.int .u64 m) /\ (IntKind.u64).min <= m /\ m <= (IntKind.u64).max :=
 oZ (t:=296) (zero:=Array.replicate 20 (.int .u64 0)) (ts:=List.replicate 20 57) h (of_decide_eq_true (by kernel_rfl)) (by kernel_rfl) (by kernel_rfl) (by kernel_rfl) (by kernel_rfl)
  (fun u hu=>by rw [List.eq_of_mem_replicate hu];exact underlying57) i hi
theorem aHn {m:Int} (h:(IntKind.u8).min <= m /\ m <= (IntKind.u8).max):∃ n:Nat,m=(n:Int) /\ n < 256:=by
 have h1:(0:Int) <= m:=h.1;have h2:m <= (255:Int):=h.2;exact ⟨m.toNat,by omega,by omega⟩
theorem aJz {m:Int} (h:(IntKind.u64).min <= m /\ m <= (IntKind.u64).max):∃ n:Nat,m=(n:Int) /\ n < 18446744073709551616:=by
 have h1:(0:Int) <= m:=h.1;have h2:m <= (18446744073709551615:Int):=h.2;exact ⟨m.toNat,by omega,by omega⟩
theorem pick {n B:Nat} {f:Nat -> Nat -> Prop} (h:∀ i,i < n -> ∃ m,f i m /\ m < B):∃ g:Nat -> Nat,∀ i,i < n -> f i (g i) /\ g i < B:=by
 refine ⟨fun i=>if h':i < n then Classical.choose (h i h') else 0,fun i hi=>?_⟩
 dsimp only
 rw [dif_pos hi];exact Classical.choose_spec (h i hi)
theorem weigh_cons {H : Type} {P : Program} {t : TypeId} {ts : List TypeId} {d : DataW H} {ds : List (DataW H)} (h : (DataW.weightsEach P (t :: ts) (d :: ds)).all (· ≤ reachBytes) = true) :
  (d.weights P t).all (· <= reachBytes)=true /\ (DataW.weightsEach P ts ds).all (· <= reachBytes)=true:=by
 rw [DataW.weightsEach,List.all_append,Bool.and_eq_true] at h;exact h
theorem weigh_string {H:Type} {P:Program} {t:TypeId} {s:ByteArray} (h:((DataW.lit (.string s.data.toList):DataW H).weights P t).all (· <= reachBytes)=true):s.size <= 140737488355327:=by
 rw [DataW.weights] at h;simp only [List.all_cons,List.all_nil,Bool.and_true,decide_eq_true_eq,Array.length_toList] at h;have:s.data.size <= 140737488351232:=h;exact Nat.le_trans this (by decide)
theorem tabs_of (w:World) (h:w.ShapedOpen prog):∃ T,bP T w:=by
 obtain ⟨f,hf⟩:=pick (n:=256) (B:=256) (f:=fun i m=>w.cell? ⟨1,i,none⟩=some (.int .u8 (m:Int))) (fun i hi=>by
  obtain ⟨m,hm,hb⟩:=aHv w h i hi;obtain ⟨n,rfl,hn⟩:=aHn hb
  exact ⟨n,hm,hn⟩)
 obtain ⟨a,ha⟩:=pick (n:=32) (B:=256) (f:=fun i m=>w.cell? ⟨2,i,none⟩=some (.int .u8 (m:Int))) (fun i hi=>by
  obtain ⟨m,hm,hb⟩:=aEo w h i hi;obtain ⟨n,rfl,hn⟩:=aHn hb
  exact ⟨n,hm,hn⟩)
 obtain ⟨p,hp⟩:=pick (n:=20) (B:=18446744073709551616) (f:=fun i m=>w.cell? ⟨3,i,none⟩=some (.int .u64 (m:Int))) (fun i hi=>by
  obtain ⟨m,hm,hb⟩:=aLn w h i hi;obtain ⟨n,rfl,hn⟩:=aJz hb
  exact ⟨n,hm,hn⟩)
 refine ⟨⟨f,fun i=>a (i * 2),fun i=>a (i * 2 + 1),p⟩,fun c hc=>(hf c hc).1,fun i hi=>⟨(ha (i * 2) (by omega)).1,(ha (i * 2 + 1) (by omega)).1⟩,fun c hc=>(hp c hc).1,?_⟩;exact ⟨fun c hc=>(hf c hc).2,fun c hc=>(ha (c * 2) (by omega)).2,fun c hc=>(ha (c * 2 + 1) (by omega)).2,fun c hc=>(hp c hc).2⟩
end Esc
end
section
open Go.RowKit
open Json (Part Wr Txt)
namespace Pip
open Esc (bA bP)
theorem aD1 (T : bA) {p : Pp} {b n : Nat} {h : Own.Heap} {w : World} (hi : p.Is b h) (hw : Own.Has w h) (hf : p.Fits n) (hn : n ≤ 80000) (hv : p.input.V) (x : UInt8) (hB : ∀ x ∈ Own.blocks h, Esc.tabsEnd ≤ x) (hT : bP T w) :
  Calls prog 71 #[.pointer (some ⟨b,0,none⟩),.int .u8 (x.toNat:Int)] w (iM (p.step (aO T) x) b h w):=by
 cases hX:p.output with
 | json W=>exact dN (gT (mI T)) (lQ _) hi hw hf hn (by rw [hX];rfl) rfl x (fun _=>Pp.aCq hf hv x) hB hT.size hT
 | bB W=>exact dN (gS (aO T)) (lQ _) hi hw hf hn (by rw [hX];rfl) rfl x (fun _ _ _=>trivial) (fun _ _=>Nat.zero_le _) (Nat.zero_le _) trivial
 | pack W=>exact dN (gR (aO T)) (lQ _) hi hw hf hn (by rw [hX];rfl) rfl x (fun _ _ _=>trivial) (fun _ _=>Nat.zero_le _) (Nat.zero_le _) trivial
theorem aHk (T : bA) {p : Pp} {b n : Nat} {h : Own.Heap} {w : World} (hi : p.Is b h) (hw : Own.Has w h) (hf : p.Fits n) (hn : n ≤ 80000) (hv : p.input.V) (hB : ∀ x ∈ Own.blocks h, Esc.tabsEnd ≤ x) (hT : bP T w) :
  Calls prog 69 #[.pointer (some ⟨b,0,none⟩)] w (iM (p.fin (aO T)) b h w):=by
 cases hX:p.output with
 | json W=>exact fV (gT (mI T)) hi hw hf hn (by rw [hX];rfl) (fun _=>Pp.aHj hf hv) hB hT.size hT
 | bB W=>exact fV (gS (aO T)) hi hw hf hn (by rw [hX];rfl) (fun _ _ _=>trivial) (fun _ _=>Nat.zero_le _) (Nat.zero_le _) trivial
 | pack W=>exact fV (gR (aO T)) hi hw hf hn (by rw [hX];rfl) (fun _ _ _=>trivial) (fun _ _=>Nat.zero_le _) (Nat.zero_le _) trivial
theorem Pp.vY (s:Setup):(Pp.new s).bM=0:=by
 unfold Pp.bM Pp.new
 dsimp only
 split
 ·rfl
 ·rename_i k
  split at k
  ·obtain rfl:=Option.some.inj k;rfl
  ·cases k
theorem vO (T:bA) (s:Setup) (hr:right s=true) (l:List UInt8):((Pp.new s).all (aO T) l).2.length <= 6012 * (18 * l.length):=by
 have hf:=Pp.Fits.new s hr;have h0:=Pp.vY s;have ht:=Pp.yF (aO T) s hr l
 cases hX:(Pp.new s).output with
 | json W =>
  have:=(gT (mI T)).wok.jD l hf (by rw [hX];rfl) ht.step;rw [h0,Nat.zero_add] at this;omega
 | bB W =>
  have:=(gS (aO T)).wok.jD l hf (by rw [hX];rfl) (fun _ _ _ _ _=>trivial);rw [h0,Nat.zero_add] at this;omega
 | pack W =>
  have:=(gR (aO T)).wok.jD l hf (by rw [hX];rfl) (fun _ _ _ _ _=>trivial);rw [h0,Nat.zero_add] at this;omega
theorem pF (T:bA) (s:Setup) (hr:right s=true) (l:List UInt8):(batch (aO T) s l).1.length <= 6012 * (18 * (l.length + 1)):=by
 have hf:=Pp.Fits.new s hr;have hfa:=hf.all (aO T) l;have h0:=Pp.vY s;have ht:=Pp.yF (aO T) s hr l;have hka:=Pp.wS (aO T) l (Pp.new s);rw [tQ _ _ hr,lla]
 cases hX:(Pp.new s).output with
 | json W =>
  have h1:=(gT (mI T)).wok.jD l hf (by rw [hX];rfl) ht.step;have h2:=(gT (mI T)).wok.fF hfa (hka.trans (by rw [hX];rfl)) ht.fin;rw [h0,Nat.zero_add] at h1;omega
 | bB W =>
  have h1:=(gS (aO T)).wok.jD l hf (by rw [hX];rfl) (fun _ _ _ _ _=>trivial);have h2:=(gS (aO T)).wok.fF hfa (hka.trans (by rw [hX];rfl)) (fun _ _ _=>trivial);rw [h0,Nat.zero_add] at h1;omega
 | pack W =>
  have h1:=(gR (aO T)).wok.jD l hf (by rw [hX];rfl) (fun _ _ _ _ _=>trivial);have h2:=(gR (aO T)).wok.fF hfa (hka.trans (by rw [hX];rfl)) (fun _ _ _=>trivial);rw [h0,Nat.zero_add] at h1;omega
theorem sK (T:bA) (s:Setup) (hr:right s=true) (l:List UInt8) (x:UInt8):(((Pp.new s).all (aO T) l).1.step (aO T) x).2.1.length <= 6012 * (18 * (l.length + 1)):=by
 have:=vO T s hr (l ++ [x]);rw [Pp.xK,lla,lla,List.length_singleton] at this;omega
end Pip
end
section
open Go.RowKit
open Json (Part)
namespace Pip
section
variable {c:Core} {T:TypeId} {b:Nat} {post:List Value} {h:Own.Heap} {w:World}
theorem qH {n : Nat} (hi : c.Is T b post h) (hw : Own.Has w h) (hf : c.Fits n) :
  Calls prog 177 #[.pointer (some ⟨b,0,none⟩)] w fun e w'=>e = .returned (.int .i64 (c.held:Int)) /\ ∃ m,w'=w.drewN m:=by
 have hs1:=hf.s;have hd:=hf.deep;have hd2:=hf.depth;obtain ⟨oa,oc,sa,sc,ho,hs,rfl,h1,h2⟩:=hi.cV;have c3:=hw.cell b _ _ mcs 3 _ rfl;have c1:=hw.cell b _ _ mcs 1 _ rfl;have c7:=hw.cell b _ _ mcs 7 _ rfl;have HP:=hhh (show c.held=if c.e ≠ 0 then 0 else c.s.length + c.opened.length from rfl);generalize c.held=O at HP |-;have HW:=hhh (show (c.s.length:Int) + (c.opened.length:Int)=((c.s.length + c.opened.length:Nat):Int) by omega);rcases Nat.eq_zero_or_pos c.e with h0 | h0
 ·have HQ:=hhh (show O=c.s.length + c.opened.length by rw [HP.o,ifn (by omega)])
  rw [h0] at c3;clear hi hw h1 h2 HP h0 hf;go_enter func177,ntmps177;go_wp2;go_quiet (fail);go_wp2;go_ret;exact ⟨by rw [HQ.o];exact Own.dL HW.o,_,rfl⟩
 ·have hne:((c.e:Int) != 0)=true:=by rw [bne_iff_ne];omega
  have HQ:=hhh (show O=0 by rw [HP.o,ifp (by omega)]);clear hi hw h1 h2 HP h0 hf;go_enter func177,ntmps177;go_wp2;go_ret;exact ⟨by rw [HQ.o];rfl,0,rfl⟩
end
section
variable {p:Jin} {b:Nat} {h:Own.Heap} {w:World}
theorem aBi (hi : p.Is b h) (hw : Own.Has w h) (hf : p.Fits) :
  Calls prog 147 #[.pointer (some ⟨b,0,none⟩)] w fun e w'=>e = .returned (.int .i64 (p.held:Int)) /\ ∃ m,w'=w.drewN m:=by
 obtain ⟨c26,-⟩:=hi.eG hw;by_cases he:p.e=0
 ·have HP:=hhh (show p.held=p.l.held + p.maps.length by unfold Jin.held;rw [ifn (by omega)])
  have hB:=hf.l.held;have hM:p.maps.length <= 16:=Nat.le_trans hf.maps hf.depth;obtain ⟨mv,hm,hl,hs,il,rfl⟩:=hi;have HL:=hhh (fun n=>(aFt il (hw.left.drewN n)).mono fun e u hu=>(hu:e = .returned (.int .i64 (p.l.held:Int)) /\ u=w.drewN n));obtain ⟨a,c,rfl⟩:=hs.len;rw [List.length_map] at *
  obtain ⟨hpo,pp,sv,hb,hp,hB2,rfl⟩:=il;have c24:=hw.left.cell b _ _ mcs 24 _ rfl;generalize p.l.held=L at HP HL hB;generalize p.held=PH at HP |-;generalize p.maps.length=M at *
  rw [he] at c26;clear hw hf hs he hp hB2 hpo;go_enter func147,ntmps147;go_wp2_with (fail);go_quiet ((go_at_call 149;exact Calls.quiet_of_same (HL.o _)));go_wp2;go_ret;exact ⟨by rw [HP.o];exact congrArg (fun z=>Ending.returned (.int .i64 z)) (show (L:Int) + (M:Int)=((L + M:Nat):Int) by omega),_,rfl⟩
 ·have HP:=hhh (show p.held=0 by unfold Jin.held;rw [ifp he])
  have hmb:((p.e:Int) != 0)=true:=by simp;omega
  generalize p.held=PH at HP |-;clear hi hw hf he;go_enter func147,ntmps147;go_wp2;go_ret;exact ⟨by rw [HP.o];rfl,0,rfl⟩
end
section
variable {p:Cin} {b:Nat} {h:Own.Heap} {w:World}
theorem vJ {n : Nat} (hi : p.Is b h) (hw : Own.Has w h) (hf : p.c.Fits n) :
  Calls prog 175 #[.pointer (some ⟨b,0,none⟩)] w fun e w'=>e = .returned (.int .i64 (p.c.held:Int)) /\ ∃ m,w'=w.drewN m:=by
 have HO:=hhh (qH hi hw hf);clear hi hw hf;go_enter func175,ntmps175;go_wp2_with (fail);refine HO.o.mono ?_;rintro e w2 ⟨rfl,m,rfl⟩;go_wp2;go_ret;exact ⟨rfl,m,rfl⟩
end
section
variable {p:Pin} {b:Nat} {h:Own.Heap} {w:World}
theorem vS {n : Nat} (hi : p.Is b h) (hw : Own.Has w h) (hf : p.c.Fits n) :
  Calls prog 200 #[.pointer (some ⟨b,0,none⟩)] w fun e w'=>e = .returned (.int .i64 (p.c.held:Int)) /\ ∃ m,w'=w.drewN m:=by
 have HO:=hhh (qH hi hw hf);clear hi hw hf;go_enter func200,ntmps200;go_wp2_with (fail);refine HO.o.mono ?_;rintro e w2 ⟨rfl,m,rfl⟩;go_wp2;go_ret;exact ⟨rfl,m,rfl⟩
end
end Pip
end
section
open Go.RowKit
open Json (Part Wr)
namespace Pip
theorem xL (w:World):Calls prog 83 #[.pointer none] w fun e w'=>e = .returned (.int .i64 0) /\ w=w':=by
 go_enter func83,ntmps83;go_wp2;go_ret;exact ⟨rfl,rfl⟩
def sizeH:Option Stg -> Nat
 | none=>0
 | some s=>s.size
theorem yP {o : Option Stg} {v : Value} {h : Own.Heap} {w : World} (hi : HoldIs o v h) (hw : Own.Has w h) :
  Calls prog 83 #[v] w fun e w'=>e = .returned (.int .i64 (sizeH o:Int)) /\ w=w':=by
 cases o with
 | none =>
  obtain ⟨rfl,rfl⟩:=hi;exact xL w
 | some s =>
  obtain ⟨b,rfl,i⟩:=hi;exact xX i hw
def jQ (w u:World):Prop:=∃ m,u=w.drewN m
theorem jQ.refl (w:World):jQ w w:=⟨0,rfl⟩
theorem jQ.drewN {w u:World} (h:jQ w u) (n:Nat):jQ w (u.drewN n):=by
 obtain ⟨m,rfl⟩:=h;exact ⟨m + n,World.drewN_drewN ..⟩
theorem jQ.has {w u:World} {h:Own.Heap} (d:jQ w u) (hw:Own.Has w h):Own.Has u h:=by
 obtain ⟨m,rfl⟩:=d;exact hw.drewN m
def Reader.fnH:Reader -> Nat
 | .json _=>147
 | .bB _=>175
 | .pack _=>200
theorem aD3 {r : Reader} {b n : Nat} {h : Own.Heap} {w : World} (hi : r.Is b h) (hw : Own.Has w h) (hf : r.Fits n) :
  Calls prog r.fnH #[.pointer (some ⟨b,0,none⟩)] w fun e w'=>e = .returned (.int .i64 (r.held:Int)) /\ ∃ m,w'=w.drewN m:=by
 cases r with
 | json p=>exact aBi (p:=p) hi hw hf
 | bB p=>exact vJ (p:=p) hi hw (show p.Fits n from hf).c
 | pack p=>exact vS (p:=p) hi hw (show p.Fits n from hf).c
theorem aGo {p : Pp} {b n : Nat} {h : Own.Heap} {w : World} (hi : p.Is b h) (hw : Own.Has w h) (hf : p.Fits n) (hd : p.input.depth ≤ 16) :
  Calls prog 66 #[.pointer (some ⟨b,0,none⟩)] w fun e w'=>e = .returned (.int .i64 (p.held:Int)) /\ ∃ m,w'=w.drewN m:=by
 have HM:=hhh (fW hi hw);by_cases hm:p.may=0
 ·have HP:=hhh (show p.held=p.input.held + sizeH p.hold by unfold Pp.held;rw [ifn (by simp [hm])];cases p.hold <;> rfl)
  have hR:=Nat.le_trans hf.input.held (Nat.add_le_add_left hd 200);have hZ:sizeH p.hold <= 2000:=by
   cases hh:p.hold with
   | none=>exact Nat.zero_le _
   | some s=>exact Nat.le_trans (hf.hold s hh).size (hf.hold s hh).limit
  rw [hm] at HM;obtain ⟨rb,wb,hv,hr,hw0,hh,rfl,iR,iW,iH⟩:=hi;have hL:∀ u,jQ w u -> Calls prog p.input.fnH #[.pointer (some ⟨rb,0,none⟩)] u fun e u'=>e = .returned (.int .i64 (p.input.held:Int)) /\ jQ w u':=by
   intro u t;refine (aD3 iR ((t.has hw).right (a:=[_])).left hf.input).mono ?_;rintro e u' ⟨he,m,rfl⟩;exact ⟨he,t.drewN m⟩
  have HL:=hhh hL;have HS:=hhh (fun (u:World) (t:jQ w u)=>yP iH (((t.has hw).right (a:=[_])).right).right);have HT0:=hhh (jQ.refl w);have HC:=hhh (fun (u:World) (t:jQ w u)=>(t.has hw).cell b _ _ mcs 2 _ rfl);have c0:=hw.cell b _ _ mcs 0 _ rfl;have c2:=hw.cell b _ _ mcs 2 _ rfl;obtain ⟨R,hRe⟩:∃ R,R=p.input.held:=⟨_,rfl⟩;obtain ⟨Z,hZe⟩:∃ Z,Z=sizeH p.hold:=⟨_,rfl⟩;rw [<- hRe] at hR HP HL;rw [<- hZe] at hZ HP HS;have hwrap:IntKind.i64.wrap ((R:Int) + (Z:Int))=((R + Z:Nat):Int):=by rw [IntKind.wrap_i64];omega
  have HWr:=hhh hwrap;generalize p.held=PH at HP |-;obtain ⟨pi,po,ph,pv,pe⟩:=p;simp only at c0 c2;clear hw hf hm hd iR iW iH hL hRe hZe hR hZ hwrap
  cases pi
  case json pj =>
   have hTA:=aCm;simp only [Reader.ty] at c0;simp only [Reader.fnH] at HL;go_enter func66,ntmps66;go_wp2_with (fail);refine HM.o.mono ?_;rintro e w1 ⟨rfl,rfl⟩;go_wp2_with (fail)
   go_region_with (first
    | (go_at_call 147;refine (HL.o _ (by first | exact HT0.o | exact HT0.o.drewN _)).mono ?_;rintro e W ⟨rfl,t⟩;have c2':=HC.o _ t)
    | (go_at_call 83;refine (HS.o _ (by first | exact HT0.o | exact HT0.o.drewN _ | assumption | exact jQ.drewN (by assumption) _)).mono ?_;rintro e W ⟨rfl,rfl⟩))
   all_goals
    go_wp2;go_ret;exact ⟨by rw [HP.o];exact congrArg (fun z=>Ending.returned (.int .i64 z)) HWr.o,by first | assumption | exact jQ.drewN (by assumption) _⟩
  case bB pj =>
   have hTA:=aCg;simp only [Reader.ty] at c0;simp only [Reader.fnH] at HL;go_enter func66,ntmps66;go_wp2_with (fail);refine HM.o.mono ?_;rintro e w1 ⟨rfl,rfl⟩;go_wp2_with (fail)
   go_region_with (first
    | (go_at_call 175;refine (HL.o _ (by first | exact HT0.o | exact HT0.o.drewN _)).mono ?_;rintro e W ⟨rfl,t⟩;have c2':=HC.o _ t)
    | (go_at_call 83;refine (HS.o _ (by first | exact HT0.o | exact HT0.o.drewN _ | assumption | exact jQ.drewN (by assumption) _)).mono ?_;rintro e W ⟨rfl,rfl⟩))
   all_goals
    go_wp2;go_ret;exact ⟨by rw [HP.o];exact congrArg (fun z=>Ending.returned (.int .i64 z)) HWr.o,by first | assumption | exact jQ.drewN (by assumption) _⟩
  case pack pj =>
   have hTA:=aC4;simp only [Reader.ty] at c0;simp only [Reader.fnH] at HL;go_enter func66,ntmps66;go_wp2_with (fail);refine HM.o.mono ?_;rintro e w1 ⟨rfl,rfl⟩;go_wp2_with (fail)
   go_region_with (first
    | (go_at_call 200;refine (HL.o _ (by first | exact HT0.o | exact HT0.o.drewN _)).mono ?_;rintro e W ⟨rfl,t⟩;have c2':=HC.o _ t)
    | (go_at_call 83;refine (HS.o _ (by first | exact HT0.o | exact HT0.o.drewN _ | assumption | exact jQ.drewN (by assumption) _)).mono ?_;rintro e W ⟨rfl,rfl⟩))
   all_goals
    go_wp2;go_ret;exact ⟨by rw [HP.o];exact congrArg (fun z=>Ending.returned (.int .i64 z)) HWr.o,by first | assumption | exact jQ.drewN (by assumption) _⟩
 ·have HP:=hhh (show p.held=0 by unfold Pp.held;rw [ifp hm])
  have hmb:((p.may:Int) != 0)=true:=by rw [bne_iff_ne];omega
  generalize p.held=PH at HP |-;generalize p.may=m at HM hmb;clear hi hw hf hm hd;go_enter func66,ntmps66;go_wp2_with (fail);refine HM.o.mono ?_;rintro e w1 ⟨rfl,rfl⟩;go_wp2;go_ret;exact ⟨by rw [HP.o];rfl,0,rfl⟩
end Pip
end
section
open Go.RowKit
namespace Ses
open Pip
open Json (Part)
def PipeIs:Option Pp -> Value -> Own.Heap -> Prop
 | none,v,h=>v = .pointer none /\ h=[]
 | some p,v,h=>∃ b,v = .pointer (some ⟨b,0,none⟩) /\ p.Is b h
def post (s:St) (pv:Value):List Value :=
 [.string ⟨s.header.toArray⟩,.int .i64 s.setup.from_,.int .i64 s.setup.to,.int .i64 s.setup.depth,.int .i64 s.setup.stage,.int .i64 s.setup.limit,.bool s.told,pv,.bool s.half,.bool s.ended,.int .i64 (s.e:Int)]
abbrev aDt (s:St) (sb rb:Nat) (lv pv:Value):Nat × Obj:=Queue.at_ sb 87 [.pointer (some ⟨rb,0,none⟩)] lv s.out (post s pv)
structure At (s:St) (sb rb bb:Nat) (r:Ring.St) (lv pv:Value) (hq hp:Own.Heap):Prop where
 f:r.Fits
 l:r.l.length=64
 a:r.all=s.inb
 q:Queue.Is s.out lv hq
 p:PipeIs s.p pv hp
def Is (s:St) (sb:Nat) (h:Own.Heap):Prop :=
 ∃ (rb bb:Nat) (r:Ring.St) (lv pv:Value) (hq hp:Own.Heap),At s sb rb bb r lv pv hq hp /\ h=aDt s sb rb lv pv :: (hq ++ (Ring.heap r rb bb ++ hp))
theorem At.n {s:St} {sb rb bb:Nat} {r:Ring.St} {lv pv:Value} {hq hp:Own.Heap} (i:At s sb rb bb r lv pv hq hp):r.n=s.inb.length:=by
 rw [<- i.a,Ring.St.eE]
theorem iX {w:World} {x:Nat × Obj} {hq g hp:Own.Heap} (h:Own.Has w (x :: (hq ++ (g ++ hp)))):Own.Has w g:=(h.right (a:=x :: hq)).left
theorem pI {w:World} {x:Nat × Obj} {hq g hp:Own.Heap} (h:Own.Has w (x :: (hq ++ (g ++ hp)))):Own.Has w hp:=(h.right (a:=x :: hq)).right
theorem eV {w:World} {x:Nat × Obj} {hq g hp:Own.Heap} (h:Own.Has w (x :: (hq ++ (g ++ hp)))):Own.Has w (x :: hq):=Own.Has.left (a:=x :: hq) h
theorem eI {x y:Nat × Obj} {hq hq' g hp:Own.Heap} {u v:World} (t:Own.aA (x :: hq) (y :: hq') u v) (h:Own.Has u (x :: (hq ++ (g ++ hp)))):Own.aA (x :: (hq ++ (g ++ hp))) (y :: (hq' ++ (g ++ hp))) u v :=
 Own.aA.frame (r:=g ++ hp) t h
theorem kM {x:Nat × Obj} {hq g g' hp:Own.Heap} {u v:World} (t:Own.aA g g' u v) (h:Own.Has u (x :: (hq ++ (g ++ hp)))):Own.aA (x :: (hq ++ (g ++ hp))) (x :: (hq ++ (g' ++ hp))) u v :=
 Own.aA.aMw (l:=x :: hq) t h
theorem mX {x:Nat × Obj} {hq g hp hp':Own.Heap} {u v:World} (t:Own.aA hp hp' u v) (h:Own.Has u (x :: (hq ++ (g ++ hp)))):Own.aA (x :: (hq ++ (g ++ hp))) (x :: (hq ++ (g ++ hp'))) u v:=by
 have e:∀ z,x :: (hq ++ (g ++ z))=(x :: (hq ++ g)) ++ z:=fun z=>by simp
 rw [e,e];rw [e] at h;exact t.behind h
theorem eO (w:World):Calls prog 21 #[] w fun e w'=>∃ sb h,e = .returned (.pointer (some ⟨sb,0,none⟩)) /\ Is St.new sb h /\ Own.aA [] h w w':=by
 have HR:=hhh (fun W=>Ring.eO 64 (by omega) (by omega) W);go_enter func21,ntmps21;go_wp2_with (fail);refine (HR.o _).mono ?_;rintro e W1 ⟨rb,bb,rfl,ht⟩;go_wp2;go_ret;refine ⟨W1.heap.size,_,rfl,⟨rb,bb,⟨List.replicate 64 0,0,0⟩,.slice none 0 0,.pointer none,[],[],⟨⟨by decide,by decide,by decide⟩,rfl,rfl,Queue.Is.none,rfl,rfl⟩,rfl⟩,?_⟩;have t:=ht.alloc (.cells #[.pointer (some ⟨rb,0,none⟩),.slice none 0 0,.int .i64 0,.string ⟨#[]⟩,.int .i64 0,.int .i64 0,.int .i64 0,.int .i64 0,.int .i64 0,.bool false,.pointer none,.bool false,.bool false,.int .i64 0] 87);exact t
section
variable {s:St} {sb:Nat} {h:Own.Heap} {w:World}
theorem nG (i : Is s sb h) (hw : Own.Has w h) :
  Calls prog 31 #[.pointer (some ⟨sb,0,none⟩)] w fun e w'=>e = .returned (.bool s.ready) /\ w'=w:=by
 obtain ⟨rb,bb,r,lv,pv,hq,hp,a,rfl⟩:=i;have cell:=fun j v hj=>hw.cell sb _ _ mcs j v hj
 have c0:=cell 0 _ rfl;have c11:=cell 11 _ rfl;have c12:=cell 12 _ rfl;have HRL:=hhh (Ring.eQ (iX hw));have HQL:=hhh (Queue.eQ hw mcs 1 rfl);rw [a.n] at HRL;have HE:=hhh (show s.ready=(!s.ended && decide (s.out.length < 64) && (decide (0 < s.inb.length) || s.half)) from rfl);generalize s.ready=R at HE |-;generalize s.half=hf at c11 HE;generalize s.ended=en at c12 HE;generalize s.out.length=N at HE HQL;generalize s.inb.length=M at HE HRL;clear cell hw a
 cases en
 case true =>
  go_enter func31,ntmps31;go_wp2;go_ret;exact ⟨Own.dW HE.o.symm,rfl⟩
 by_cases hN:N < 64
 case neg =>
  go_enter func31,ntmps31;go_wp2_with (fail);refine HQL.o.mono ?_;rintro e1 W1 ⟨rfl,rfl⟩;go_wp2
  all_goals go_ret
  all_goals exact ⟨Own.dW (by rw [HE.o,decide_eq_false hN];rfl),rfl⟩
 by_cases hM:0 < M
 case pos =>
  go_enter func31,ntmps31;go_wp2_with (fail);refine HQL.o.mono ?_;rintro e1 W1 ⟨rfl,rfl⟩;go_wp2_with (fail);refine HRL.o.mono ?_;rintro e1 W1 ⟨rfl,rfl⟩;go_wp2
  all_goals go_ret
  all_goals exact ⟨Own.dW (by rw [HE.o,decide_eq_true hN,decide_eq_true hM];rfl),rfl⟩
 have hM0:M=0:=by omega
 subst hM0
 cases hf
 all_goals
  go_enter func31,ntmps31;go_wp2_with (fail);refine HQL.o.mono ?_;rintro e1 W1 ⟨rfl,rfl⟩;go_wp2_with (fail);refine HRL.o.mono ?_;rintro e1 W1 ⟨rfl,rfl⟩;go_wp2
  all_goals go_ret
  all_goals exact ⟨Own.dW (by rw [HE.o,decide_eq_true hN];rfl),rfl⟩
theorem kO (i : Is s sb h) (hw : Own.Has w h) :
  Calls prog 40 #[.pointer (some ⟨sb,0,none⟩)] w fun e w'=>e = .returned (.tuple #[.int .i64 (s.e:Int),.bool s.ended]) /\ ∃ n,w'=w.drewN n:=by
 obtain ⟨rb,bb,r,lv,pv,hq,hp,a,rfl⟩:=i;have cell:=fun j v hj=>hw.cell sb _ _ mcs j v hj
 have c12:=cell 12 _ rfl;have c13:=cell 13 _ rfl;clear cell hw a;go_enter func40,ntmps40;go_wp2;go_quiet (fail);go_wp2;go_ret2;exact ⟨rfl,_,rfl⟩
theorem lK (i : Is s sb h) (hw : Own.Has w h) :
  Calls prog 42 #[.pointer (some ⟨sb,0,none⟩)] w fun r w'=>r = .returned (.bool s.closed) /\ w'=w:=by
 obtain ⟨rb,bb,r,lv,pv,hq,hp,a,rfl⟩:=i;have c12:=hw.cell sb _ _ mcs 12 _ rfl;have HL:=hhh (Queue.eQ hw mcs 1 rfl);clear hw a
 cases he:s.ended with
 | false =>
  have HC:=hhh (show s.closed=false by unfold St.closed;rw [he];rfl);rw [he] at c12;clear he;go_enter func42,ntmps42;go_wp2;go_ret;exact ⟨Own.dW HC.o.symm,rfl⟩
 | true =>
  rw [he] at c12;by_cases h0:s.out.length=0
  ·have HC:=hhh (show s.closed=true by unfold St.closed;rw [he,List.eq_nil_of_length_eq_zero h0];rfl)
   have h0I:(s.out.length:Int)=0:=by omega
   have hb:((s.out.length:Int) == 0)=true:=by rw [h0I];rfl
   clear he h0I h0;go_enter func42,ntmps42;go_wp2_with (fail);refine HL.o.mono ?_;rintro e1 W1 ⟨rfl,rfl⟩;go_wp2
   all_goals go_ret
   all_goals exact ⟨Own.dW HC.o.symm,rfl⟩
  ·have HC:=hhh (show s.closed=false by unfold St.closed;rw [he];cases hs:s.out with | nil=>rw [hs] at h0;exact absurd rfl h0 | cons x l=>rfl)
   have hb:((s.out.length:Int) == 0)=false:=by rw [bfn];omega
   clear he;go_enter func42,ntmps42;go_wp2_with (fail);refine HL.o.mono ?_;rintro e1 W1 ⟨rfl,rfl⟩;go_wp2
   all_goals go_ret
   all_goals exact ⟨Own.dW HC.o.symm,rfl⟩
theorem yR (b:ByteArray) (k:Nat) (h:k <= b.size):(b.extract 0 k).size=k /\ (b.extract 0 k).data.toList=b.data.toList.take k:=by
 constructor
 ·rw [ByteArray.size_extract];omega
 ·rw [ByteArray.data_extract,Array.toList_extract];simp
theorem aHz (i : Is s sb h) (hw : Own.Has w h) (b : ByteArray) (hb : b.size ≤ 1000000) (room : Int) :
  Calls prog 28 #[.pointer (some ⟨sb,0,none⟩),.string b,.int .i64 room] w fun e w'=>e = .returned (.int .i64 ((s.cE b.data.toList room:Nat):Int)) /\
   ∃ h',Is (s.feed b.data.toList room) sb h' /\ Own.aA h h' w w':=by
 obtain ⟨rb,bb,r,lv,pv,hq,hp,a,rfl⟩:=i;have cell:=fun j v hj=>hw.cell sb _ _ mcs j v hj
 have c0:=cell 0 _ rfl;have c11:=cell 11 _ rfl;have c12:=cell 12 _ rfl;have hn:=a.n;have hl:=a.l;have hbl:b.data.toList.length=b.size:=Array.length_toList;have Hw:=hhh hw;have AA:=hhh a;by_cases hs:(s.half || s.ended)=true
 ·have HT:=hhh (show s.cE b.data.toList room=0 by unfold St.cE;rw [ifp hs])
  have HF:=hhh (show s.feed b.data.toList room=s by unfold St.feed;rw [HT.o];simp);have HI:Is s sb _:=⟨rb,bb,r,lv,pv,hq,hp,a,rfl⟩;have HI2:=hhh (HF.o.symm ▸ HI:Is (s.feed b.data.toList room) sb _);clear HI;clear cell hw hn hl hb hbl a
  cases hh:s.half <;> cases he:s.ended <;> (first | (rw [hh,he] at hs;exact absurd hs (by decide)) | skip)
  all_goals
   rw [hh] at c11;rw [he] at c12;clear hs hh he;go_enter func28,ntmps28;go_wp2;go_ret;exact ⟨Own.dL (by rw [HT.o];rfl),_,HI2.o,Own.aA.refl Hw.o⟩
 ·have hhalf:s.half=false:=by cases hh:s.half <;> simp_all
  have hend:s.ended=false:=by cases hh:s.ended <;> simp_all
  obtain ⟨k,hk⟩:∃ k,k=min b.size room.toNat:=⟨_,rfl⟩;have hkb:k <= b.size:=by omega
  have hx:=yR b k hkb;have HT:=hhh (show s.cE b.data.toList room=min (b.extract 0 k).size (r.l.length - r.n) by unfold St.cE;rw [ifn hs,hx.1,hk,hbl,hl,hn]);have HP:=hhh (fun W (hW:Own.Has W (Ring.heap r rb bb))=>Ring.jI hW a.f (b.extract 0 k) (by rw [hx.1];omega) _ HT.o);rw [hhalf] at c11;rw [hend] at c12;have HA:=hhh (ai hn hx);have HB:=hhh (ai hb (ai hbl hl));obtain ⟨R,hR⟩:∃ R:Int,R=max room 0:=⟨_,rfl⟩;have hm1:(if room < 0 then 0 else room)=R:=by split <;> omega
  have hm2:max room 0=R:=hR.symm;have hm3:(if R < (b.size:Int) then R else (b.size:Int))=(k:Int):=by split <;> omega
  have hm4:min (b.size:Int) R=(k:Int):=by omega
  have hm5:(if (b.size:Int) < R then (b.size:Int) else R)=(k:Int):=by split <;> omega
  have hm6:(if 0 < room then room else 0)=R:=by split <;> omega
  clear cell hw hn hl hs hb hbl hx a;have hkI:(k:Int) <= (b.size:Int):=by omega
  have HK:=hhh (ai hk (ai hkb hR));clear hk hkb hR;go_enter func28,ntmps28;go_wp2;go_still_tail 11,(by kernel_rfl);go_wp2_with (fail);refine (HP.o _ (iX Hw.o.drew)).mono ?_;rintro e W1 ⟨r',rfl,f',hl',ha',ht⟩;go_wp2;go_ret;refine ⟨rfl,_,⟨rb,bb,r',lv,pv,hq,hp,⟨f',hl'.trans AA.o.l,?_,AA.o.q,AA.o.p⟩,rfl⟩,?_⟩
  ·obtain ⟨h3,h6,h7⟩:=HA.o
   rw [ha',AA.o.a,h7,List.take_take];have h8:=HT.o;rw [h6] at h8;show s.inb ++ _=s.inb ++ List.take (s.cE b.data.toList room) b.data.toList;rw [show min (s.cE b.data.toList room) k=s.cE b.data.toList room by omega]
  ·exact ((Own.aA.refl Hw.o).drew).trans (kM ht Hw.o.drew)
end
end Ses
end
section
namespace Ses
open Pip
open Json (Part)
structure St.Good (T:Esc.bA) (n:Nat) (s:St):Prop where
 inb:s.inb.length <= 64
 out:s.out.length <= 300000000 * n
 head:s.header.length <= n
 early:s.told=false -> s.p=none
 late:s.told=true -> s.ended=false -> ∃ p,s.p=some p
 over:s.ended=true -> s.p=none /\ s.inb=[]
 pipe:∀ p,s.p=some p -> right s.setup=true /\ p.may=0 /\ ∃ l,l.length <= n /\ p=((Pp.new s.setup).all (aO T) l).1
variable {T:Esc.bA} {n m:Nat} {s:St}
theorem Good.new:St.new.Good T 0 :=
 ⟨Nat.zero_le _,Nat.zero_le _,Nat.zero_le _,fun _=>rfl,(fun h=>by cases h),(fun h=>by cases h),(fun p h=>by cases h)⟩
theorem St.Good.mono (g:s.Good T n) (h:n <= m):s.Good T m :=
 ⟨g.inb,Nat.le_trans g.out (Nat.mul_le_mul_left _ h),Nat.le_trans g.head h,g.early,g.late,g.over,fun p hp=>by
  obtain ⟨h1,h2,l,h3,h4⟩:=g.pipe p hp
  exact ⟨h1,h2,l,Nat.le_trans h3 h,h4⟩⟩
theorem gQ (e:Nat) (told:Bool) (ho:s.out.length + 2 <= 300000000 * m) (hh:s.header.length <= m):(s.stop e told).Good T m :=
 ⟨Nat.zero_le _,by show (s.out ++ [_,_]).length <= _;rw [lla];exact ho,hh,fun _=>rfl,(fun _ h=>by cases h),fun _=>⟨rfl,rfl⟩,(fun p h=>by cases h)⟩
theorem St.Good.write (g:s.Good T n) (k:Int):(s.write k).Good T n :=
 ⟨g.inb,by show (s.out.drop _).length <= _;rw [List.length_drop];have:=g.out;omega,g.head,g.early,g.late,g.over,g.pipe⟩
theorem pV (s:St) (b:List UInt8) (room:Int):s.cE b room <= 64 - s.inb.length /\ s.cE b room <= b.length /\ s.cE b room <= room.toNat:=by
 unfold St.cE;split <;> omega
theorem St.Good.feed (g:s.Good T n) (b:List UInt8) (room:Int):(s.feed b room).Good T n:=by
 refine ⟨?_,g.out,g.head,g.early,g.late,fun h=>?_,g.pipe⟩
 ·show (s.inb ++ b.take _).length <= 64
  have:=pV s b room;have:=g.inb;rw [lla,List.length_take];omega
 ·have h0:s.ended=true:=h
  obtain ⟨h1,h2⟩:=g.over h0;refine ⟨h1,?_⟩;show s.inb ++ b.take (s.cE b room)=[];rw [h2,show s.cE b room=0 by unfold St.cE;rw [h0,Bool.or_true];rfl];rfl
theorem St.Good.fits (g:s.Good T n) {p:Pp} (h:s.p=some p):p.Fits (19 * n) /\ p.input.V /\ p.input.depth <= 16 /\ p.held <= 2300:=by
 obtain ⟨hr,_,l,hl,rfl⟩:=g.pipe p h;have hb:=(fT _).1 hr;have hd:=(Pp.fK.all (aO T) l (Pp.sX s.setup)).2;rw [Pp.tW] at hd;have hh:=(Pp.aKi (aO T) s.setup hr l).1;refine ⟨(Pp.Fits.all (aO T) l (Pp.Fits.new s.setup hr)).mono (by omega),Pp.aCl (aO T) l (Reader.V.new _ _),by omega,by omega⟩
theorem eH {T:Esc.bA} (s:Setup) (hr:right s=true) (l:List UInt8) (x:UInt8) (hl:l.length <= 2600):(((Pp.new s).all (aO T) l).1.step (aO T) x).2.1.length <= 290000000:=by
 have:=sK T s hr l x;omega
theorem fF {T:Esc.bA} (s:Setup) (hr:right s=true) (l:List UInt8) (hl:l.length <= 2600):(((Pp.new s).all (aO T) l).1.fin (aO T)).2.1.length <= 290000000:=by
 have:=pF T s hr l;rw [tQ _ _ hr,lla] at this;omega
theorem aEa (g:s.Good T n) (hn:n <= 2600) (p:Pp) (hp:s.p=some p) (he:s.ended=false) (ht:s.told=true) (b:UInt8) (l:List UInt8) (hl:l.length <= 64):(({ s with inb:=l }:St).byte (aO T) p b).Good T (n + 1):=by
 obtain ⟨hr,hm,d,hd,hpd⟩:=g.pipe p hp;have hlen:(p.step (aO T) b).2.1.length <= 290000000:=by rw [hpd];exact eH s.setup hr d b (by omega)
 have ho:=g.out;have hh:=g.head;unfold St.byte
 dsimp only
 split
 ·refine gQ _ _ ?_ (Nat.le_trans hh (Nat.le_succ _))
  show (s.out ++ _).length + 2 <= _;rw [lla];omega
 ·rename_i h0
  refine ⟨hl,?_,Nat.le_trans hh (Nat.le_succ _),fun h=>?_,fun _ _=>⟨_,rfl⟩,fun h=>?_,fun q hq=>?_⟩
  ·show (s.out ++ _).length <= _
   rw [lla];omega
  ·rw [show s.told=false from h] at ht;cases ht
  ·rw [show s.ended=true from h] at he;cases he
  ·cases hq
   refine ⟨hr,?_,d ++ [b],by rw [lla,List.length_singleton];omega,?_⟩
   ·rw [Pp.yD];omega
   ·rw [Pp.xK,<- hpd]
theorem aAx (g:s.Good T n) (he:s.ended=false) (ht:s.told=false) (b:UInt8) (l:List UInt8) (hl:l.length <= 64):(({ s with inb:=l }:St).iP b).Good T (n + 1):=by
 have ho:=g.out;have hh:(s.header ++ [b]).length <= n + 1:=by rw [lla,List.length_singleton];have:=g.head;omega
 have hp:=g.early ht;unfold St.iP
 dsimp only
 split
 ·exact ⟨hl,by show s.out.length <= _;omega,hh,fun _=>hp,(fun h=>by rw [show s.told=true from h] at ht;cases ht),(fun h=>by rw [show s.ended=true from h] at he;cases he),(fun p h=>by rw [show s.p=some p from h] at hp;cases hp)⟩
 ·split
  ·rename_i h0
   have hg:=pY _ h0;refine ⟨hl,by show (s.out ++ [75]).length <= _;rw [lla,List.length_singleton];omega,hh,(fun h=>by cases h),fun _ _=>⟨_,rfl⟩,(fun h=>by rw [show s.ended=true from h] at he;cases he),fun p h=>?_⟩
   cases h
   exact ⟨hg.2.1,Pp.aC6 _,[],Nat.zero_le _,rfl⟩
  ·refine gQ _ _ ?_ hh
   show s.out.length + 2 <= _;omega
theorem sY (g:s.Good T n) (hn:n <= 2600) (he:s.ended=false):(s.once (aO T)).Good T (n + 1):=by
 have ho:=g.out;have hh:=g.head
 cases hi:s.inb with
 | nil =>
  cases ht:s.told with
  | false =>
   rw [show s.once (aO T)=s.stop 3 false by unfold St.once;rw [hi,ht]];exact gQ _ _ (by omega) (by omega)
  | true =>
   obtain ⟨p,hp⟩:=g.late ht he;obtain ⟨hr,hm,d,hd,hpd⟩:=g.pipe p hp;have hlen:(p.fin (aO T)).2.1.length <= 290000000:=by rw [hpd];exact fF s.setup hr d (by omega)
   rw [show s.once (aO T)=({ s with out:=s.out ++ (p.fin (aO T)).2.1 }:St).stop (p.fin (aO T)).2.2 true by unfold St.once;rw [hi,ht,hp]];refine gQ _ _ ?_ (Nat.le_trans hh (Nat.le_succ _));show (s.out ++ _).length + 2 <= _;rw [lla];omega
 | cons b l =>
  have hl:l.length <= 64:=by have:=g.inb;rw [hi,List.length_cons] at this;omega
  cases ht:s.told with
  | false =>
   rw [show s.once (aO T)=({ s with inb:=l }:St).iP b by unfold St.once;rw [hi,ht]];exact aAx g he ht b l hl
  | true =>
   obtain ⟨p,hp⟩:=g.late ht he;rw [show s.once (aO T)=({ s with inb:=l }:St).byte (aO T) p b by unfold St.once;rw [hi,ht,hp]];exact aEa g hn p hp he ht b l hl
theorem iV {s:St} (h:s.ready=true):s.ended=false:=by
 unfold St.ready at h
 cases he:s.ended with
 | false=>rfl
 | true=>rw [he] at h;cases h
theorem uD (g:s.Good T n) (hn:n <= 2600) (he:s.ended=false) (may:Option (Int -> Bool)):(s.jC (aO T) may).Good T (n + 1):=by
 have h1:=sY g hn he;unfold St.jC;split
 ·refine gQ _ _ ?_ h1.head
  show (List.take _ _).length + 2 <= _;have:=g.out;rw [List.length_take];omega
 ·exact h1
theorem rR (may:Option (Int -> Bool)):∀ (k n:Nat) (s:St),s.Good T n -> n + k <= 2600 -> (s.run (aO T) may k).1.Good T (n + k)
 | 0,_,_,g,_=>g
 | k + 1,n,s,g,h=>by
  unfold St.run
  split
  ·rename_i hr
   have:=rR may k (n + 1) _ (uD g (by omega) (iV hr) may) (by omega)
   rw [show n + (k + 1)=n + 1 + k by omega]
   exact this
  ·exact g.mono (by omega)
theorem uL (g:s.Good T n):s.aH <= 300000000 * n + 2400:=by
 unfold St.aH;have h1:=g.inb;have h2:=g.out;split
 ·omega
 ·cases hp:s.p with
  | none=>simp only [heldO];omega
  | some p=>have h3:=(g.fits hp).2.2.2;simp only [heldO];omega
end Ses
end
section
open Go.RowKit
namespace Ses
open Pip
section
variable {T:Esc.bA} {n:Nat} {s:St} {sb:Nat} {h:Own.Heap} {w:World}
theorem cK (i : Is s sb h) (hw : Own.Has w h) (g : s.Good T n) (hn : n ≤ 2600) :
  Calls prog 50 #[.pointer (some ⟨sb,0,none⟩)] w fun e w'=>e = .returned (.int .i64 (s.aH:Int)) /\ ∃ m,w'=w.drewN m:=by
 obtain ⟨rb,bb,r,lv,pv,hq,hp,a,rfl⟩:=i;have cell:=fun j v hj=>hw.cell sb _ _ mcs j v hj
 have c0:=cell 0 _ rfl;have c10:=cell 10 _ rfl;have c12:=cell 12 _ rfl;have HRL:=hhh (fun m=>Ring.eQ (r:=r) (rb:=rb) (bb:=bb) (w:=w.drewN m) ((iX hw).drewN m));have HQL:=hhh (fun m=>Queue.eQ (w:=w.drewN m) (hw.drewN m) mcs 1 rfl);have hin:=g.inb;have hout:=g.out;rw [a.n] at HRL;obtain ⟨MI,hMI⟩:∃ z:Int,z=(s.inb.length:Int):=⟨_,rfl⟩;obtain ⟨NI,hNI⟩:∃ z:Int,z=(s.out.length:Int):=⟨_,rfl⟩;rw [<- hMI] at HRL;rw [<- hNI] at HQL;have hM0:0 <= MI:=by omega
 have hM1:MI <= 64:=by omega
 have hN0:0 <= NI:=by omega
 have hN1:NI <= 1000000000000:=by omega
 have hwr:IntKind.i64.wrap (MI + NI)=MI + NI:=by rw [IntKind.wrap_i64];omega
 have HC:=hhh (show (s.aH:Int)=MI + NI + (if s.ended then 0 else (heldO s.p:Int) + 2) by
  unfold St.aH;rw [hMI,hNI];cases s.ended <;> simp)
 have HH:=hhh (fun (p:Pp) (hpp:s.p=some p)=>(g.fits hpp));have A:=hhh (ai hw (ai hn a.p));clear cell hw hin hout hMI hNI a g hn
 cases he:s.ended with
 | true =>
  rw [he] at c12 HC;clear he;go_enter func50,ntmps50;go_wp2;go_quiet (first | exact Calls.quiet_of_same (HRL.o _) | exact Calls.quiet_of_same (HQL.o _));go_wp2;go_ret;exact ⟨Own.dL (by rw [HC.o];simp),_,rfl⟩
 | false =>
  rw [he] at c12 HC;clear he
  cases hp1:s.p with
  | none =>
   have hA:=A.o.2.2;rw [hp1] at hA HC;obtain ⟨rfl,rfl⟩:=hA;clear hp1 A HH;go_enter func50,ntmps50;go_wp2;go_quiet (first | exact Calls.quiet_of_same (HRL.o _) | exact Calls.quiet_of_same (HQL.o _));go_wp2;go_ret;exact ⟨Own.dL (by rw [HC.o];simp [heldO]),_,rfl⟩
  | some p =>
   have hA:=A.o.2.2;rw [hp1] at hA HC;obtain ⟨pb,rfl,hpi⟩:=hA;obtain ⟨hf,_,hd,hh⟩:=HH.o p hp1;have hasp:=pI A.o.1;have HP:=hhh (fun m=>aGo hpi (hasp.drewN m) hf hd);obtain ⟨HI,hHI⟩:∃ z:Int,z=(p.held:Int):=⟨_,rfl⟩;rw [<- hHI] at HP;have hH0:0 <= HI:=by omega
   have hH1:HI <= 2300:=by omega
   have HC2:=hhh (show (s.aH:Int)=MI + NI + HI + 2 by rw [HC.o,hHI];simp only [heldO];simp;omega);clear hp1 A HH hHI hf hd hh hpi hasp HC;go_enter func50,ntmps50;go_wp2;go_quiet (first | exact Calls.quiet_of_same (HRL.o _) | exact Calls.quiet_of_same (HQL.o _));go_wp2_with (fail);refine (HP.o _).mono ?_;rintro e W1 ⟨rfl,m1,rfl⟩;go_wp2;go_ret;exact ⟨Own.dL (by rw [HC2.o]),_,rfl⟩
end
end Ses
end
end Go.Proofs.YtcjflgmcjfcodaaGreat
