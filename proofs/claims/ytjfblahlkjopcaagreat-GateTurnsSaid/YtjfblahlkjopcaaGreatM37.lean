/- Texts of the walk, joined. -/
import Derived.Test.YtjfblahlkjopcaaGreatM04
import Derived.Test.YtjfblahlkjopcaaGreatM06
import Derived.Test.YtjfblahlkjopcaaGreatM07
import Derived.Test.YtjfblahlkjopcaaGreatM09
import Derived.Test.YtjfblahlkjopcaaGreatM10
import Derived.Test.YtjfblahlkjopcaaGreatM12
import Derived.Test.YtjfblahlkjopcaaGreatM14
import Derived.Test.YtjfblahlkjopcaaGreatM22
import Derived.Test.YtjfblahlkjopcaaGreatM25
import Derived.Test.YtjfblahlkjopcaaGreatM26
import Derived.Test.YtjfblahlkjopcaaGreatM27
import Derived.Test.YtjfblahlkjopcaaGreatM30
import Derived.Test.YtjfblahlkjopcaaGreatM31
import Derived.Test.YtjfblahlkjopcaaGreatM34
import Derived.Test.YtjfblahlkjopcaaGreatM36
import Derived.Below
import Derived.BigQuiet
import Derived.ChangeArms
import Derived.Deep.RegionWith
import Derived.Deep.Slices
import Derived.Lib.Bytealg
import Derived.StillTailTactics
import Derived.WideShapes
import GoSem.ClaimJoined
import GoSem.Claims
set_option maxRecDepth 100000
set_option maxHeartbeats 8000000
namespace Go.Proofs.YtjfblahlkjopcaaGreat
section
open Go.RowKit
open Json (Part Wr)
namespace Pip
theorem wrote_pack (text:Part -> List UInt8):Wrote 3 300 (fun _=>True) text 0 (fun _=>True) where
 wok:=wok_pack text
 write hi hf hn hk he l hl hfine hs hw _ _ _:=write_pack text hi hf hn hk he l hl (fun v hv=>(hfine v hv).1) hs hw
def s18:Setup:=⟨1,3,2,9,0⟩
theorem reads_cbor:Reads 2 where
 step r hk b n h w hi hw hf hn x:=by
  cases r with
  | json p=>cases hk
  | cbor p=>exact cinstep_any (p:=p) hi hw hf hn x
  | pack p=>cases hk
theorem reads_pack:Reads 3 where
 step r hk b n h w hi hw hf hn x:=by
  cases r with
  | json p=>cases hk
  | cbor p=>cases hk
  | pack p=>exact pinstep_any (p:=p) hi hw hf hn x
end Pip
end
section
open Go.RowKit
open Json (Part Wr Txt)
namespace Pip
section
variable {ok:Part -> Prop} {text:Part -> List UInt8} {B:Nat} {Tb:World -> Prop}
theorem wok_json (TX:Txt ok text B Tb):Wok 1 6012 ok text B Tb where
 step W hk wb n h w hi hw hf hn hB hT p _ hp:=by
  cases W with
  | json W=>exact Json.step_any (W:=W) hi hw ⟨hf.1,hf.2⟩ hn TX hB hT p hp
  | cbor W=>cases hk
  | pack W=>cases hk
 len W hk p _ hp:=by
  cases W with
  | json W=>exact Nat.le_succ_of_le (Json.Wr.step_len TX W p hp)
  | cbor W=>cases hk
  | pack W=>cases hk
 of:=TX.of
 stage h:=by cases h
 room:=by decide
theorem wrote_json (TX:Txt ok text B Tb):Wrote 1 6012 ok text B Tb where
 wok:=wok_json TX
 write hi hf hn hk he l hl hfine hs hw hB hBw hT:=write_json (wok_json TX) hi hf hn hk he l hl hfine hs hw hB hBw hT
theorem reads_kind (r:Reader):Reads r.kind:=by
 cases r with
 | json p=>exact reads_json
 | cbor p=>exact reads_cbor
 | pack p=>exact reads_pack
end
def textN:Part -> List UInt8:=fun _=>[110,117,108,108]
def Pp.toldR (ok:Part -> Bool) (text:Part -> List UInt8):Pp -> List UInt8 -> Bool
 | p,[]=>p.may != 0 || p.input.fin.2.1.all ok
 | p,x :: b=>(p.may != 0 || (p.input.step x).2.1.all ok) && (p.step text x).1.toldR ok text b
end Pip
end
section
namespace Base
def signs : List UInt8 := [65, 66, 67, 68, 69, 70, 71, 72, 73, 74, 75, 76, 77, 78, 79, 80, 81, 82, 83, 84, 85, 86, 87, 88, 89, 90, 97, 98, 99, 100, 101, 102, 103, 104, 105, 106, 107, 108, 109, 110, 111, 112, 113, 114, 115, 116, 117, 118, 119, 120, 121, 122, 48, 49, 50, 51, 52, 53, 54, 55, 56, 57, 45, 95]
def sign (k : Nat) : UInt8 := signs.getD k 0
def emits (v : Nat) : Nat → List UInt8
 | n + 6 => sign (v / 2 ^ n % 64) :: emits v n
 | _ => []
def putGo : List UInt8 → Nat → Nat → List UInt8
 | [], v, n => if 0 < n then [sign (v * 2 ^ (6 - n) % 64)] else []
 | b :: l, v, n => emits (v * 256 + b.toNat) (n + 8) ++ putGo l ((v * 256 + b.toNat) % 2 ^ ((n + 8) % 6)) ((n + 8) % 6)
def put (l : List UInt8) : List UInt8 := putGo l 0 0
theorem sign_get (k : Nat) (h : k < 64) : signs[k]? = some (sign k) := by
 unfold sign
 rw [List.getD_eq_getElem?_getD]
 have : k < signs.length := h
 simp [List.getElem?_eq_getElem this]
theorem putGo0 (b : UInt8) (l : List UInt8) (v : Nat) : putGo (b :: l) v 0 = sign ((v * 256 + b.toNat) / 4 % 64) :: putGo l ((v * 256 + b.toNat) % 4) 2 := by
 simp [putGo, emits]
theorem putGo2 (b : UInt8) (l : List UInt8) (v : Nat) : putGo (b :: l) v 2 = sign ((v * 256 + b.toNat) / 16 % 64) :: putGo l ((v * 256 + b.toNat) % 16) 4 := by
 simp [putGo, emits]
theorem putGo4 (b : UInt8) (l : List UInt8) (v : Nat) : putGo (b :: l) v 4 = sign ((v * 256 + b.toNat) / 64 % 64) :: sign ((v * 256 + b.toNat) % 64) :: putGo l 0 0 := by
 simp [putGo, emits, Nat.mod_one]
def val (c : UInt8) : Int := Lib.indexByte signs c
def getGo : List UInt8 → Nat → Nat → List UInt8 → Option (List UInt8)
 | [], _, _, out => some out
 | c :: l, v, n, out =>
  if val c < 0 then none
  else if 2 ≤ n then getGo l ((v * 64 + (val c).toNat) % 2 ^ (n - 2)) (n - 2) (out ++ [UInt8.ofNat ((v * 64 + (val c).toNat) / 2 ^ (n - 2))])
  else getGo l ((v * 64 + (val c).toNat) % 2 ^ (n + 6)) (n + 6) out
def get (l : List UInt8) : Option (List UInt8) :=
 match getGo l 0 0 [] with
 | none => none
 | some out => if put out = l then some out else none
def len (n : Int) : Int := if n < 0 ∨ 1000000 < n then 0 else n / 3 * 4 + (n % 3 * 4 + 2) / 3
theorem put3 (a b c : UInt8) (l : List UInt8) : put (a :: b :: c :: l) =
  sign (a.toNat / 4 % 64) :: sign ((a.toNat % 4 * 256 + b.toNat) / 16 % 64) :: sign (((a.toNat % 4 * 256 + b.toNat) % 16 * 256 + c.toNat) / 64 % 64) :: sign (((a.toNat % 4 * 256 + b.toNat) % 16 * 256 + c.toNat) % 64) :: put l := by
 unfold put
 rw [putGo0, putGo2, putGo4, Nat.zero_mul, Nat.zero_add]
theorem put_length : ∀ l : List UInt8, (put l).length = (4 * l.length + 2) / 3
 | [] => rfl
 | [a] => by unfold put; rw [putGo0]; simp [putGo]
 | [a, b] => by unfold put; rw [putGo0, putGo2]; simp [putGo]
 | a :: b :: c :: l => by
  have := put_length l
  rw [put3]
  simp only [List.length_cons]
  omega
end Base
end
section
open Go.RowKit
namespace Put
def signText:ByteArray:=⟨Base.signs.toArray⟩
theorem sign_at (y:Nat) (hy:y < 64) (h:y < signText.size):signText[y]'h=Base.sign y:=by
 have h1:Base.signs[y]? = some (Base.sign y):=Base.sign_get y hy;have h2:y < Base.signs.length:=hy;rw [List.getElem?_eq_getElem h2] at h1;have h3:=Option.some.inj h1;rw [<- h3];rfl
theorem wb (B : Nat) (acc : List UInt8) (c : UInt8) (w : World) (h : Lib.IsBuilderF 111 5 B B (Lib.byteCells acc) w) (hlen : acc.length ≤ 10000000) (hBw : B ≤ w.heap.size) (n : Int) (hn : n = c.toNat) :
  Calls Tryz.prog 229 #[.pointer (some ⟨B,0,none⟩),.int .u8 n] w fun e w'=>e = .returned .nilIface /\ Lib.IsBuilderF 111 5 B B (Lib.byteCells (acc ++ [c])) w' /\ Below B w w':=by
 subst hn;refine (Bld.writeByte B B _ _ w h (by rw [Lib.byteCells_length];omega) hBw).mono ?_;rintro e w' ⟨he,h1,h2,_⟩;exact ⟨he,.inr (by rw [Lib.byteCells_append];exact h1),h2⟩
theorem any (s : ByteArray) (w : World) (hs : s.size ≤ 1000000) :
  Calls Tryz.prog 225 #[.string s] w fun e w'=>e = .returned (.string ⟨(Base.put s.data.toList).toArray⟩) /\ Below w.heap.size w w':=by
 go_enter Tryz.func225,Tryz.ntmps225;go_wp2
 go_loopw [4, 5, 9] (fun v n i wr => ∃ (k vn nn : Nat) (acc : List UInt8), i = .int .i64 k ∧ k ≤ s.size ∧ v = .int .i64 vn ∧ n = .int .i64 nn ∧ nn = 2 * (k % 3) ∧ vn < 2 ^ nn ∧
   Lib.IsBuilderF 111 5 w.heap.size w.heap.size (Lib.byteCells acc) wr /\ Below w.heap.size w wr /\ acc.length <= 2 * k /\
   acc ++ Base.putGo (s.data.toList.drop k) vn nn=Base.put s.data.toList) (fun _ _ i _=>s.size - (intOf i).toNat)
 case atStart =>
  refine ⟨0,0,0,[],rfl,by omega,rfl,rfl,by omega,by omega,Lib.IsBuilderF.of (Lib.fresh_isBuilder _ _ w),(Below.refl _ w).alloc (Nat.le_refl _) _,by simp,by simp [Base.put]⟩
 case round =>
  obtain ⟨k,vn,nn,acc,rfl,hk,rfl,rfl,hn,hv,hI,hbw,hal,heq⟩:=hrel;by_cases hlt:k < s.size
  ·have hc:=(s[k]'hlt).toNat_lt
   have hv16:vn < 16:=Nat.lt_of_lt_of_le hv (Nat.pow_le_pow_right (n:=2) (by decide) (show nn <= 4 by omega));obtain ⟨x,hx⟩:∃ x:Nat,x=vn * 256 + (s[k]'hlt).toNat:=⟨_,rfl⟩;have hor:=Int64.or8' vn (s[k]'hlt).toNat (by omega) hc;rw [<- hx] at hor;have hx4:x < 4096:=by omega
   have Hx:=hhh hx;have Heq:=hhh heq;have Hn:=hhh hn;have Hv:=hhh hv;clear hx heq hv;have hBw:w.heap.size <= wr.heap.size:=hbw.size;have hdrop:s.data.toList.drop k=s[k]'hlt :: s.data.toList.drop (k + 1):=List.drop_eq_getElem_cons (by simpa using hlt);have Hd:=hhh hdrop;clear hdrop;rcases (show k % 3=0 \/ k % 3=1 \/ k % 3=2 by omega) with h3 | h3 | h3
   ·rw [h3] at hn
    subst hn;have H3:=hhh h3;clear h3;obtain ⟨y,hy⟩:∃ y:Nat,y=x / 4 % 64:=⟨_,rfl⟩;obtain ⟨z,hz⟩:∃ z:Nat,z=x % 4:=⟨_,rfl⟩;have han:bits .and .i64 ((x:Int) / 4) 63=(y:Int):=by
     have:=Int64.and63 (x / 4) (by omega);rw [hy,<- this];rfl
    have hma:bits .and .i64 (x:Int) 3=(z:Int):=by
     have:=Int64.andMask x 2 (by decide) (by omega);rw [hz,<- show x % 2 ^ 2=x % 4 from rfl,<- this];rfl
    have hy6:y < 64:=by omega
    have Hy:=hhh hy;have Hz:=hhh hz;clear hy hz;go_wp2;refine wp_loop_rounds 3 ?_;rw [rounds_succ];go_wp2_with (fail);refine (wb w.heap.size acc (Base.sign y) wr hI (by omega) hBw _ (congrArg (fun u:UInt8=>(u.toNat:Int)) (sign_at y hy6 hy6))).mono ?_;rintro e W1 ⟨rfl,h1,b1⟩;go_wp2;rw [rounds_succ];go_wp2;go_roundw
    case rel =>
     refine ⟨k + 1,z,2,acc ++ [Base.sign y],by go_num,by omega,rfl,rfl,by have:=H3.o;omega,by have:=Hz.o;omega,h1,hbw.trans b1,by simp;omega,?_⟩;rw [<- Heq.o,Hd.o,Base.putGo0,<- Hx.o,<- Hy.o,<- Hz.o];simp
    case measure=>simp [intOf];omega
   ·rw [h3] at hn
    subst hn;have H3:=hhh h3;clear h3;obtain ⟨y,hy⟩:∃ y:Nat,y=x / 16 % 64:=⟨_,rfl⟩;obtain ⟨z,hz⟩:∃ z:Nat,z=x % 16:=⟨_,rfl⟩;have han:bits .and .i64 ((x:Int) / 16) 63=(y:Int):=by
     have:=Int64.and63 (x / 16) (by omega);rw [hy,<- this];rfl
    have hma:bits .and .i64 (x:Int) 15=(z:Int):=by
     have:=Int64.andMask x 4 (by decide) (by omega);rw [hz,<- show x % 2 ^ 4=x % 16 from rfl,<- this];rfl
    have hy6:y < 64:=by omega
    have Hy:=hhh hy;have Hz:=hhh hz;clear hy hz;go_wp2;refine wp_loop_rounds 3 ?_;rw [rounds_succ];go_wp2_with (fail);refine (wb w.heap.size acc (Base.sign y) wr hI (by omega) hBw _ (congrArg (fun u:UInt8=>(u.toNat:Int)) (sign_at y hy6 hy6))).mono ?_;rintro e W1 ⟨rfl,h1,b1⟩;go_wp2;rw [rounds_succ];go_wp2;go_roundw
    case rel =>
     refine ⟨k + 1,z,4,acc ++ [Base.sign y],by go_num,by omega,rfl,rfl,by have:=H3.o;omega,by have:=Hz.o;omega,h1,hbw.trans b1,by simp;omega,?_⟩;rw [<- Heq.o,Hd.o,Base.putGo2,<- Hx.o,<- Hy.o,<- Hz.o];simp
    case measure=>simp [intOf];omega
   ·rw [h3] at hn
    subst hn;have H3:=hhh h3;clear h3;obtain ⟨y,hy⟩:∃ y:Nat,y=x / 64 % 64:=⟨_,rfl⟩;obtain ⟨y2,hy2⟩:∃ y:Nat,y=x % 64:=⟨_,rfl⟩;have han:bits .and .i64 ((x:Int) / 64) 63=(y:Int):=by
     have:=Int64.and63 (x / 64) (by omega);rw [hy,<- this];rfl
    have han2:bits .and .i64 (x:Int) 63=(y2:Int):=by
     rw [hy2,<- Int64.and63 x (by omega)]
    have hma:bits .and .i64 (x:Int) 0=0:=by
     have:=Int64.andMask x 0 (by decide) (by omega);simpa [Nat.mod_one] using this
    have hy6:y < 64:=by omega
    have hy26:y2 < 64:=by omega
    have Hy:=hhh hy;have Hy2:=hhh hy2;clear hy hy2;go_wp2;refine wp_loop_rounds 3 ?_;rw [rounds_succ];go_wp2_with (fail);refine (wb w.heap.size acc (Base.sign y) wr hI (by omega) hBw _ (congrArg (fun u:UInt8=>(u.toNat:Int)) (sign_at y hy6 hy6))).mono ?_;rintro e W1 ⟨rfl,h1,b1⟩;go_wp2;rw [rounds_succ];go_wp2_with (fail);refine (wb w.heap.size _ (Base.sign y2) W1 h1 (by rw [List.length_append];show acc.length + 1 <= _;omega) (by have:=b1.size;omega) _ (congrArg (fun u:UInt8=>(u.toNat:Int)) (sign_at y2 hy26 hy26))).mono ?_;rintro e W2 ⟨rfl,h2,b2⟩;go_wp2;rw [rounds_succ];go_wp2;go_roundw
    case rel =>
     refine ⟨k + 1,0,0,acc ++ [Base.sign y] ++ [Base.sign y2],by go_num,by omega,rfl,rfl,by have:=H3.o;omega,by omega,h2,(hbw.trans b1).trans b2,by simp;omega,?_⟩;rw [<- Heq.o,Hd.o,Base.putGo4,<- Hx.o,<- Hy.o,<- Hy2.o];simp
    case measure=>simp [intOf];omega
  ·have hdrop:s.data.toList.drop k=[]:=by
    apply List.drop_eq_nil_of_le;have:s.data.toList.length=s.size:=Array.length_toList;omega
   rw [hdrop] at heq;have hv16:vn < 16:=Nat.lt_of_lt_of_le hv (Nat.pow_le_pow_right (n:=2) (by decide) (show nn <= 4 by omega));have Heq:=hhh heq;have Hv:=hhh hv;clear heq hdrop hv;have hBw:w.heap.size <= wr.heap.size:=hbw.size;rcases (show k % 3=0 \/ k % 3=1 \/ k % 3=2 by omega) with h3 | h3 | h3
   ·rw [h3] at hn
    subst hn;clear h3;go_wp2_with (fail);refine (Tryz.Builder_String_any_k w.heap.size w.heap.size _ _ hI (by omega)).mono ?_;rintro e W2 ⟨rfl,_,b2,_⟩;go_wp2;go_ret;refine ⟨?_,hbw.trans b2⟩;rw [<- Heq.o];simp [Base.putGo]
   ·rw [h3] at hn
    subst hn;clear h3;obtain ⟨y,hy⟩:∃ y:Nat,y=vn * 16 % 64:=⟨_,rfl⟩;have hvm:vn < 4:=Hv.o;have han:bits .and .i64 ((vn:Int) * 16) 63=(y:Int):=by
     have:=Int64.and63 (vn * 16) (by omega);rw [hy,<- this];rfl
    have hy6:y < 64:=by omega
    have Hy:=hhh hy;clear hy;go_wp2_with (fail);refine (wb w.heap.size acc (Base.sign y) wr hI (by omega) hBw _ (congrArg (fun u:UInt8=>(u.toNat:Int)) (sign_at y hy6 hy6))).mono ?_;rintro e W1 ⟨rfl,h1,b1⟩;go_wp2_with (fail);refine (Tryz.Builder_String_any_k w.heap.size w.heap.size _ _ h1 (by have:=b1.size;omega)).mono ?_;rintro e W2 ⟨rfl,_,b2,_⟩;go_wp2;go_ret;refine ⟨?_,(hbw.trans b1).trans b2⟩;rw [<- Heq.o];simp [Base.putGo,Hy.o]
   ·rw [h3] at hn
    subst hn;clear h3;obtain ⟨y,hy⟩:∃ y:Nat,y=vn * 4 % 64:=⟨_,rfl⟩;have hvm:vn < 16:=Hv.o;have han:bits .and .i64 ((vn:Int) * 4) 63=(y:Int):=by
     have:=Int64.and63 (vn * 4) (by omega);rw [hy,<- this];rfl
    have hy6:y < 64:=by omega
    have Hy:=hhh hy;clear hy;go_wp2_with (fail);refine (wb w.heap.size acc (Base.sign y) wr hI (by omega) hBw _ (congrArg (fun u:UInt8=>(u.toNat:Int)) (sign_at y hy6 hy6))).mono ?_;rintro e W1 ⟨rfl,h1,b1⟩;go_wp2_with (fail);refine (Tryz.Builder_String_any_k w.heap.size w.heap.size _ _ h1 (by have:=b1.size;omega)).mono ?_;rintro e W2 ⟨rfl,_,b2,_⟩;go_wp2;go_ret;refine ⟨?_,(hbw.trans b1).trans b2⟩;rw [<- Heq.o];simp [Base.putGo,Hy.o]
end Put
end
section
open Go.RowKit
open Json (Part Wr Txt)
namespace Pip
open Esc (Tabs TabsAt)
theorem quoted' (l:List UInt8):((⟨#[34]⟩:ByteArray) ++ ⟨l.toArray⟩ ++ ⟨#[34]⟩)=⟨(34 :: (l ++ [34])).toArray⟩:=by
 apply ByteArray.ext;simp
def okT:Part -> Prop
 | .whole _ m=>m < 18446744073709551616
 | .word s=>s.size <= 1000 /\ Esc.Val s.data.toList
 | .blob s=>s.size <= 1000
 | .other _=>False
 | _=>True
def textT (T:Tabs):Part -> List UInt8
 | .bool true=>[116,114,117,101]
 | .bool false=>[102,97,108,115,101]
 | .whole n m=>Fmt.dec T n m
 | .word s=>34 :: (Esc.writeT T s ++ [34])
 | .blob s=>34 :: (Base.put s.data.toList ++ [34])
 | _=>[110,117,108,108]
theorem writeT_length (T:Tabs) (s:ByteArray):(Esc.writeT T s).length <= 6 * (s.size + 1):=Esc.outT_length T s (s.size + 1) 0
theorem textT_any (T : Tabs) (p : Part) (hp : okT p) (w : World) (hT : TabsAt T w) :
  Calls Tryz.prog 222 #[p.val] w fun r w'=>r = .returned (.string ⟨(textT T p).toArray⟩) /\ Below w.heap.size w w':=by
 have B0:=hhh (fun o=>(Below.refl w.heap.size w).alloc (Nat.le_refl _) o);have HT:=hhh (fun (o:Obj)=>hT.of ((B0.o o).mono hT.size));have bel:∀ {W:World} {o:Obj},Below (w.alloc o).heap.size (w.alloc o) W -> Below w.heap.size w W:=fun {W o} b=>(B0.o o).trans (b.mono (by rw [Json.size_alloc];omega))
 have Bel:=@hhh _ @bel;clear bel hT;have a1:=Json.asBool p;have a2:=Json.asWhole p;have a3:=Json.asWord p;have a4:=Json.asBlob p;obtain ⟨V,hV⟩:∃ V,V=p.val:=⟨_,rfl⟩;rw [<- hV] at a1 a2 a3 a4 |-;clear hV
 cases p with
 | whole n m =>
  simp only [Json.Part.isBool,Json.Part.inBool,Json.Part.isWhole,Json.Part.inWhole,Json.Part.isWord,Json.Part.inWord,Json.Part.isBlob,Json.Part.inBlob] at a1 a2 a3 a4;have HP:=hhh (show m < 18446744073709551616 from hp);clear hp;go_enter Tryz.func222,Tryz.ntmps222;go_wp2_with (fail);refine (Fmt.print_any T n m HP.o _ (HT.o _)).mono ?_;rintro e W ⟨rfl,b⟩;go_wp2;go_ret;exact ⟨rfl,Bel.o b⟩
 | word s =>
  simp only [Json.Part.isBool,Json.Part.inBool,Json.Part.isWhole,Json.Part.inWhole,Json.Part.isWord,Json.Part.inWord,Json.Part.isBlob,Json.Part.inBlob] at a1 a2 a3 a4;have hs:s.size <= 1000:=hp.1;have hv:=hhh hp.2.sound;have hq:=hhh (quoted' (Esc.writeT T s));have HF:=hhh (fun W (t:TabsAt T W)=>Esc.writeT_any T s W (by omega) t hv.o);have hsz:(⟨(Esc.writeT T s).toArray⟩:ByteArray).size <= 6006:=by
   rw [show (⟨(Esc.writeT T s).toArray⟩:ByteArray).size=(Esc.writeT T s).length from List.size_toArray ..];have:=writeT_length T s;omega
  obtain ⟨S,hS⟩:∃ S:ByteArray,S=⟨(Esc.writeT T s).toArray⟩:=⟨_,rfl⟩;rw [<- hS] at hsz HF hq;clear hS hs hp;go_enter Tryz.func222,Tryz.ntmps222;go_wp2_with (fail);refine (HF.o _ (HT.o _)).mono ?_;rintro e W ⟨rfl,b⟩;go_wp2;go_ret;exact ⟨Own.ret_string hq.o,Bel.o b⟩
 | blob s =>
  simp only [Json.Part.isBool,Json.Part.inBool,Json.Part.isWhole,Json.Part.inWhole,Json.Part.isWord,Json.Part.inWord,Json.Part.isBlob,Json.Part.inBlob] at a1 a2 a3 a4;have hs:s.size <= 1000:=hp;have hq:=hhh (quoted' (Base.put s.data.toList));have HF:=hhh (fun W=>Put.any s W (by omega));have hsz:(⟨(Base.put s.data.toList).toArray⟩:ByteArray).size <= 6000:=by
   rw [show (⟨(Base.put s.data.toList).toArray⟩:ByteArray).size=(Base.put s.data.toList).length from List.size_toArray ..];have:=Base.put_length s.data.toList;have hl:s.data.toList.length=s.size:=Array.length_toList;omega
  obtain ⟨S,hS⟩:∃ S:ByteArray,S=⟨(Base.put s.data.toList).toArray⟩:=⟨_,rfl⟩;rw [<- hS] at hsz HF hq;clear hS hs hp;go_enter Tryz.func222,Tryz.ntmps222;go_wp2_with (fail);refine (HF.o _).mono ?_;rintro e W ⟨rfl,b⟩;go_wp2;go_ret;exact ⟨Own.ret_string hq.o,Bel.o b⟩
 | bool y =>
  simp only [Json.Part.isBool,Json.Part.inBool,Json.Part.isWhole,Json.Part.inWhole,Json.Part.isWord,Json.Part.inWord,Json.Part.isBlob,Json.Part.inBlob] at a1 a2 a3 a4;clear hp
  cases y
  all_goals go_enter Tryz.func222,Tryz.ntmps222
  all_goals go_wp2
  all_goals go_ret
  all_goals exact ⟨rfl,Below.refl _ _⟩
 | _ =>
  simp only [Json.Part.isBool,Json.Part.inBool,Json.Part.isWhole,Json.Part.inWhole,Json.Part.isWord,Json.Part.inWord,Json.Part.isBlob,Json.Part.inBlob] at a1 a2 a3 a4;clear hp;go_enter Tryz.func222,Tryz.ntmps222;go_wp2;go_ret;exact ⟨rfl,B0.o _⟩
theorem txt_any (T:Tabs):Txt okT (textT T) Esc.tabsEnd (TabsAt T) where
 len p hp:=by
  cases p with
  | bool b=>cases b <;> simp [textT]
  | whole n m=>have:=Fmt.dec_length T n m hp;show (Fmt.dec T n m).length <= _;omega
  | word s =>
   have:=writeT_length T s;have:s.size <= 1000:=hp.1;show (34 :: (Esc.writeT T s ++ [34])).length <= _;simp only [List.length_cons,List.length_append,List.length_nil];omega
  | blob s =>
   have:=Base.put_length s.data.toList;have hs:s.data.toList.length=s.size:=Array.length_toList;have:s.size <= 1000:=hp;show (34 :: (Base.put s.data.toList ++ [34])).length <= _;simp only [List.length_cons,List.length_append,List.length_nil];omega
  | _=>simp [textT]
 any p hp u hT:=textT_any T p hp u hT
 of u v hT b:=hT.of b
end Pip
end
section
open Go.RowKit
open Json (Part Wr Txt)
namespace Pip
open Esc (Tabs TabsAt)
theorem okT.of {v:Part} (h:Fine v) (hw:WV v):okT v:=by
 cases v with
 | whole n m=>exact h.small
 | word s=>exact ⟨h.small,hw s rfl⟩
 | blob s=>exact h.small
 | other b=>have:=h.may;cases this
 | _=>trivial
theorem Reader.V.new (f:Int) (d:Nat):(Reader.new f d).V:=by
 unfold Reader.new;split
 ·exact ⟨fun _ h=>absurd (show (0:Nat)=1 from h) (by decide)⟩
 ·split
  ·exact CinV.new d
  ·exact PinV.new d
theorem Reader.V.step {r:Reader} (h:r.V) (b:UInt8):(r.step b).1.V /\ ∀ v ∈ (r.step b).2.1,WV v:=by
 cases r with
 | json p=>exact Jin.step_wv h b
 | cbor p =>
  show CinV (p.step b).1 /\ ∀ v ∈ (p.step b).2.1,WV v;unfold Cin.step;split
  ·exact ⟨h,fun _ hv=>by cases hv⟩
  ·rename_i k
   have o:=CinO.act h (by simpa using k) b (Hd.step_new b) (fun hb=>Hd.step_begun p.h b hb) (fun h0=>Hd.step_fin p.h b h0);exact ⟨o.p,o.told⟩
 | pack p =>
  show PinV (p.step b).1 /\ ∀ v ∈ (p.step b).2.1,WV v;unfold Pin.step;split
  ·exact ⟨h,fun _ hv=>by cases hv⟩
  ·rename_i k
   have o:=PinO.act h (by simpa using k) b;exact ⟨o.p,o.told⟩
theorem Reader.V.fin {r:Reader} (h:r.V):∀ v ∈ r.fin.2.1,WV v:=by
 cases r with
 | json p=>exact Jin.fin_wv h
 | cbor p=>exact fun _ hv=>by cases hv
 | pack p=>exact fun _ hv=>by cases hv
theorem Pp.step_v (text:Part -> List UInt8) {p:Pp} (h:p.input.V) (x:UInt8):(p.step text x).1.input.V:=by
 unfold Pp.step;split
 ·exact h
 ·rw [Pp.write_input]
  exact (h.step x).1
theorem Pp.all_v (text:Part -> List UInt8):∀ (l:List UInt8) {p:Pp},p.input.V -> (p.all text l).1.input.V
 | [],_,h=>h
 | x :: l,_,h=>Pp.all_v text l (Pp.step_v text h x)
theorem Pp.step_ok {p:Pp} {n:Nat} (hf:p.Fits n) (h:p.input.V) (x:UInt8):∀ v ∈ (p.input.step x).2.1,okT v :=
 fun v hv=>.of ((Reader.good_step hf.input x).fine v hv) ((h.step x).2 v hv)
theorem Pp.fin_ok {p:Pp} {n:Nat} (hf:p.Fits n) (h:p.input.V):∀ v ∈ p.input.fin.2.1,okT v :=
 fun v hv=>.of ((Reader.good_fin hf.input).fine v hv) (h.fin v hv)
theorem Pp.told_any (text:Part -> List UInt8) (s:Setup) (hr:right s=true) (b:List UInt8):(Pp.new s).Told okT text b :=
 ⟨fun j _ _=>Pp.step_ok (Pp.Fits.all text (b.take j) (Pp.Fits.new s hr)) (Pp.all_v text _ (Reader.V.new _ _)) _,
  fun _=>Pp.fin_ok (Pp.Fits.all text b (Pp.Fits.new s hr)) (Pp.all_v text _ (Reader.V.new _ _))⟩
end Pip
end
section
namespace Pip
open Json (Part Wr)
theorem Jin.value_d (p:Jin) (t:Tok):(p.value t).1.depth=p.depth:=by
 unfold Jin.value
 repeat' split
 all_goals rfl
theorem Jin.token_d (p:Jin) (t:Tok):(p.token t).1.depth=p.depth:=by
 unfold Jin.token
 repeat' split
 all_goals first | rfl | exact Jin.value_d _ _
theorem Jin.parts_d:∀ (l:List Tok) (p:Jin) (e:Nat),(p.parts l e).1.depth=p.depth
 | [],_,_=>rfl
 | t :: l,p,e=>by
  unfold Jin.parts
  split
  ·exact Jin.token_d p t
  ·exact (Jin.parts_d l _ e).trans (Jin.token_d p t)
theorem Jin.step_d (p:Jin) (b:UInt8):(p.step b).1.depth=p.depth:=by
 unfold Jin.step;split
 ·rfl
 ·exact Jin.parts_d _ _ _
theorem Core.begin_d (c:Core) (m:Bool) (n:Int):(c.begin m n).1.depth=c.depth:=by
 unfold Core.begin;split <;> rfl
theorem Core.break_d (c:Core):c.break.1.depth=c.depth:=by
 unfold Core.break
 repeat' split
 all_goals rfl
theorem Core.length_d (c:Core) (w:Bool) (n:Nat):(c.length w n).1.depth=c.depth:=by
 unfold Core.length
 dsimp only
 repeat' split
 all_goals rfl
theorem Core.byte_d (c:Core) (b:UInt8):(c.byte b).1.depth=c.depth:=by
 unfold Core.byte
 repeat' split
 all_goals rfl
theorem Cin.behind_d (p:Cin) (m v:Nat) (o:Bool):(p.behind m v o).1.c.depth=p.c.depth:=by
 unfold Cin.behind
 repeat' split
 all_goals first | rfl | exact Core.length_d _ _ _ | exact Core.begin_d _ _ _
theorem Cin.head_d (p:Cin) (b:UInt8):(p.head b).1.c.depth=p.c.depth:=by
 unfold Cin.head
 dsimp only
 repeat' split
 all_goals first | rfl | exact Cin.behind_d _ _ _ _
theorem Cin.simple_d (p:Cin) (n:Nat):(p.simple n).1.c.depth=p.c.depth:=by
 unfold Cin.simple
 repeat' split
 all_goals rfl
theorem Cin.step_d (p:Cin) (b:UInt8):(p.step b).1.c.depth=p.c.depth:=by
 unfold Cin.step;split
 ·rfl
 ·show (p.act b).1.c.depth=_
  unfold Cin.act;split
  ·exact Core.byte_d _ _
  ·split
   ·exact Cin.head_d _ _
   ·split
    ·unfold Cin.chunk
     split
     ·rfl
     ·by_cases k:b.toNat / 32 ≠ (if p.c.word then 3 else 2) \/ b.toNat % 32=31
      ·rw [if_pos k];rfl
      ·rw [if_neg k];exact Cin.head_d _ _
    ·unfold Cin.item
     dsimp only
     repeat' split
     all_goals first | rfl | exact Core.break_d _ | exact Cin.simple_d _ _ | exact Cin.head_d _ _
theorem Pin.ite_d {c:Prop} [Decidable c] {a b:Pin × List Part} {d:Nat} (ha:a.1.c.depth=d) (hb:b.1.c.depth=d):(if c then a else b).1.c.depth=d:=by
 split
 ·exact ha
 ·exact hb
theorem Pin.count_d (p:Pin) (m:Bool) (n:Nat):(p.count m n).1.c.depth=p.c.depth:=by
 unfold Pin.count;split
 ·rfl
 ·exact Core.begin_d _ _ _
theorem Pin.behind_d (p:Pin) (k v:Nat):(p.behind k v).1.c.depth=p.c.depth:=by
 unfold Pin.behind
 repeat' split
 all_goals first | rfl | exact Core.length_d _ _ _ | exact Pin.count_d _ _ _
theorem Pin.step_d (p:Pin) (b:UInt8):(p.step b).1.c.depth=p.c.depth:=by
 unfold Pin.step;split
 ·rfl
 ·show (p.act b).1.c.depth=_
  unfold Pin.act;split
  ·exact Core.byte_d _ _
  ·split
   ·unfold Pin.number
    dsimp only
    split
    ·rfl
    ·exact Pin.behind_d _ _ _
   ·unfold Pin.item Pin.long
    dsimp only
    repeat' (refine Pin.ite_d ?_ ?_)
    all_goals first | rfl | exact Core.length_d _ _ _ | exact Pin.count_d _ _ _ | exact Core.begin_d _ _ _
theorem Reader.step_d (r:Reader) (b:UInt8):(r.step b).1.depth=r.depth:=by
 cases r with
 | json p=>exact Jin.step_d p b
 | cbor p=>exact Cin.step_d p b
 | pack p=>exact Pin.step_d p b
theorem Reader.Fits.held {r:Reader} {n:Nat} (h:r.Fits n):r.held <= 200 + r.depth:=by
 cases r with
 | json p=>exact Jin.Fits.held h
 | cbor p=>exact Core.Fits.held (show p.Fits n from h).c
 | pack p=>exact Core.Fits.held (show p.Fits n from h).c
theorem Stg.hold_limit (s:Stg) (v:Part):(s.hold v).1.limit <= s.limit:=by
 unfold Stg.hold;split
 ·exact Nat.zero_le _
 ·exact Nat.le_refl _
theorem Stg.step_limit (s:Stg) (v:Part):(s.step v).1.limit <= s.limit:=by
 unfold Stg.step;split
 ·exact Nat.le_refl _
 ·split
  ·exact Nat.le_refl _
  ·split
   ·exact Nat.le_refl _
   ·split
    ·unfold Stg.close
     split
     ·exact Nat.le_refl _
     ·dsimp only
      split
      ·exact Stg.hold_limit _ _
      ·exact Nat.le_refl _
    ·exact Stg.hold_limit _ _
def Pp.Under (p:Pp) (g:Nat):Prop:=∀ s,p.hold=some s -> s.limit <= g
theorem Pp.Under.one {p:Pp} {g:Nat} (h:p.Under g) (text:Part -> List UInt8) (v:Part):(p.one text v).1.Under g:=by
 unfold Pp.one;split
 ·exact fun s hs=>by cases hs
 ·rename_i s hs
  have:=h s hs;split
  ·intro x hx;cases hx;exact Nat.le_trans (Stg.step_limit s v) this
  ·intro x hx;cases hx;exact Nat.le_trans (Stg.step_limit s v) this
theorem Pp.Under.write (text:Part -> List UInt8) {g:Nat}:∀ (l:List Part) {p:Pp} (e:Nat),p.Under g -> (p.write text l e).1.Under g
 | [],_,_,h=>h
 | v :: l,p,e,h=>by
  unfold Pp.write
  split
  ·exact h.one text v
  ·exact Pp.Under.write text l e (h.one text v)
theorem Pp.Under.step {p:Pp} {g:Nat} (h:p.Under g) (text:Part -> List UInt8) (x:UInt8):(p.step text x).1.Under g /\ (p.step text x).1.input.depth=p.input.depth:=by
 unfold Pp.step;split
 ·exact ⟨h,rfl⟩
 ·refine ⟨Pp.Under.write text _ _ h,?_⟩
  rw [Pp.write_input];exact Reader.step_d _ _
theorem Pp.Under.all (text:Part -> List UInt8) {g:Nat}:∀ (l:List UInt8) {p:Pp},p.Under g -> (p.all text l).1.Under g /\ (p.all text l).1.input.depth=p.input.depth
 | [],_,h=>⟨h,rfl⟩
 | x :: l,p,h=>by
  have h1:=h.step text x
  have h2:=Pp.Under.all text l h1.1
  exact ⟨h2.1,h2.2.trans h1.2⟩
theorem Pp.new_under (s:Setup):(Pp.new s).Under s.stage.toNat:=by
 intro x hx;unfold Pp.new at hx
 dsimp only at hx
 split at hx
 ·cases hx;exact Nat.le_refl _
 ·cases hx
theorem Pp.new_depth (s:Setup):(Pp.new s).input.depth=s.depth.toNat:=by
 show (Reader.new s.from_ s.depth.toNat).depth=_;unfold Reader.new;split
 ·rfl
 ·split <;> rfl
theorem Pp.held_le (text:Part -> List UInt8) (s:Setup) (hr:right s=true) (l:List UInt8):((Pp.new s).all text l).1.held <= 200 + s.stage.toNat + s.depth.toNat /\ (((Pp.new s).all text l).1.may ≠ 0 -> ((Pp.new s).all text l).1.held=0):=by
 have hf:=Pp.Fits.all text l (Pp.Fits.new s hr);have hu:=Pp.Under.all text l (Pp.new_under s);rw [Pp.new_depth] at hu;generalize ((Pp.new s).all text l).1=p at hf hu |-;have hi:=hf.input.held;rw [hu.2] at hi;unfold Pp.held;refine ⟨?_,fun h=>if_pos h⟩;split
 ·exact Nat.zero_le _
 ·cases hh:p.hold with
  | none=>dsimp only;omega
  | some x =>
   have h1:=hu.1 x hh;have h2:=(hf.hold x hh).size
   dsimp only
   omega
end Pip
end
section
open Go.RowKit
namespace Esc
theorem row_ints {P : Program} {w : World} {g n : Nat} {t : TypeId} {zero : Array Value} {k : IntKind} {ts : List TypeId} (h : w.ShapedOpen P) (hg : g < P.globals.size)
  (h0:((begin P (fun _ _=>0) default).world.heap[g]?).bind Obj.row? = some (zero,t)) (hz:zero.size=n) (hb:P.buildable t=true) (hc:P.cellTypes P.depth t=some ts)
  (hu:∀ u ∈ ts,P.underlying u=some (.int k)) (i:Nat) (hi:i < n):∃ m,w.cell? ⟨g,i,none⟩=some (.int k m) /\ k.min <= m /\ m <= k.max:=by
 obtain ⟨cs,hh,hs,hr⟩:=h.1 g zero t hg h0;obtain ⟨ts',hts,_,hall⟩:=hr hb;rw [hc] at hts
 cases hts
 have h1:i < cs.size:=by omega
 obtain ⟨u,hu',hok⟩:=hall i cs[i] (by simp [h1]);have hm:u ∈ ts:=List.mem_of_getElem? hu';have hcell:w.cell? ⟨g,i,none⟩=some cs[i]:=by simp [World.cell?,hh,h1]
 rw [hcell];unfold Cell.ok at hok;rw [hu u hm] at hok
 cases hv:cs[i] <;> rw [hv] at hok <;> simp at hok
 case int k' m =>
  obtain ⟨rfl,h2⟩:=hok;exact ⟨m,rfl,h2⟩
theorem first_at (w:World) (h:w.ShapedOpen Tryz.prog) (i:Nat) (hi:i < 256):∃ m,w.cell? ⟨1,i,none⟩=some (.int .u8 m) /\ (IntKind.u8).min <= m /\ m <= (IntKind.u8).max :=
 row_ints (t:=294) (zero:=Array.replicate 256 (.int .u8 0)) (ts:=List.replicate 256 5) h (of_decide_eq_true (by kernel_rfl)) (by kernel_rfl) (by kernel_rfl) (by kernel_rfl) (by kernel_rfl)
  (fun u hu=>by rw [List.eq_of_mem_replicate hu];exact Tryz.underlying5) i hi
theorem accept_at (w:World) (h:w.ShapedOpen Tryz.prog) (i:Nat) (hi:i < 32):∃ m,w.cell? ⟨2,i,none⟩=some (.int .u8 m) /\ (IntKind.u8).min <= m /\ m <= (IntKind.u8).max :=
 row_ints (t:=297) (zero:=Array.replicate 32 (.int .u8 0)) (ts:=List.replicate 32 5) h (of_decide_eq_true (by kernel_rfl)) (by kernel_rfl) (by kernel_rfl) (by kernel_rfl) (by kernel_rfl)
  (fun u hu=>by rw [List.eq_of_mem_replicate hu];exact Tryz.underlying5) i hi
theorem pow_at (w:World) (h:w.ShapedOpen Tryz.prog) (i:Nat) (hi:i < 20):∃ m,w.cell? ⟨3,i,none⟩=some (.int .u64 m) /\ (IntKind.u64).min <= m /\ m <= (IntKind.u64).max :=
 row_ints (t:=299) (zero:=Array.replicate 20 (.int .u64 0)) (ts:=List.replicate 20 64) h (of_decide_eq_true (by kernel_rfl)) (by kernel_rfl) (by kernel_rfl) (by kernel_rfl) (by kernel_rfl)
  (fun u hu=>by rw [List.eq_of_mem_replicate hu];exact Tryz.underlying64) i hi
theorem nat_u8 {m:Int} (h:(IntKind.u8).min <= m /\ m <= (IntKind.u8).max):∃ n:Nat,m=(n:Int) /\ n < 256:=by
 have h1:(0:Int) <= m:=h.1;have h2:m <= (255:Int):=h.2;exact ⟨m.toNat,by omega,by omega⟩
theorem nat_u64 {m:Int} (h:(IntKind.u64).min <= m /\ m <= (IntKind.u64).max):∃ n:Nat,m=(n:Int) /\ n < 18446744073709551616:=by
 have h1:(0:Int) <= m:=h.1;have h2:m <= (18446744073709551615:Int):=h.2;exact ⟨m.toNat,by omega,by omega⟩
theorem pick {n B:Nat} {f:Nat -> Nat -> Prop} (h:∀ i,i < n -> ∃ m,f i m /\ m < B):∃ g:Nat -> Nat,∀ i,i < n -> f i (g i) /\ g i < B:=by
 refine ⟨fun i=>if h':i < n then Classical.choose (h i h') else 0,fun i hi=>?_⟩
 dsimp only
 rw [dif_pos hi];exact Classical.choose_spec (h i hi)
theorem weigh_cons {H : Type} {P : Program} {t : TypeId} {ts : List TypeId} {d : DataW H} {ds : List (DataW H)} (h : (DataW.weightsEach P (t :: ts) (d :: ds)).all (· ≤ reachBytes) = true) :
  (d.weights P t).all (· <= reachBytes)=true /\ (DataW.weightsEach P ts ds).all (· <= reachBytes)=true:=by
 rw [DataW.weightsEach,List.all_append,Bool.and_eq_true] at h;exact h
theorem weigh_string {H:Type} {P:Program} {t:TypeId} {s:ByteArray} (h:((DataW.lit (.string s.data.toList):DataW H).weights P t).all (· <= reachBytes)=true):s.size <= 140737488355327:=by
 rw [DataW.weights] at h;simp only [List.all_cons,List.all_nil,Bool.and_true,decide_eq_true_eq,Array.length_toList] at h;have:s.data.size <= 140737488351232:=h;exact Nat.le_trans this (by decide)
theorem tabs_of (w:World) (h:w.ShapedOpen Tryz.prog):∃ T,TabsAt T w:=by
 obtain ⟨f,hf⟩:=pick (n:=256) (B:=256) (f:=fun i m=>w.cell? ⟨1,i,none⟩=some (.int .u8 (m:Int))) (fun i hi=>by
  obtain ⟨m,hm,hb⟩:=first_at w h i hi;obtain ⟨n,rfl,hn⟩:=nat_u8 hb
  exact ⟨n,hm,hn⟩)
 obtain ⟨a,ha⟩:=pick (n:=32) (B:=256) (f:=fun i m=>w.cell? ⟨2,i,none⟩=some (.int .u8 (m:Int))) (fun i hi=>by
  obtain ⟨m,hm,hb⟩:=accept_at w h i hi;obtain ⟨n,rfl,hn⟩:=nat_u8 hb
  exact ⟨n,hm,hn⟩)
 obtain ⟨p,hp⟩:=pick (n:=20) (B:=18446744073709551616) (f:=fun i m=>w.cell? ⟨3,i,none⟩=some (.int .u64 (m:Int))) (fun i hi=>by
  obtain ⟨m,hm,hb⟩:=pow_at w h i hi;obtain ⟨n,rfl,hn⟩:=nat_u64 hb
  exact ⟨n,hm,hn⟩)
 refine ⟨⟨f,fun i=>a (i * 2),fun i=>a (i * 2 + 1),p⟩,fun c hc=>(hf c hc).1,fun i hi=>⟨(ha (i * 2) (by omega)).1,(ha (i * 2 + 1) (by omega)).1⟩,fun c hc=>(hp c hc).1,?_⟩;exact ⟨fun c hc=>(hf c hc).2,fun c hc=>(ha (c * 2) (by omega)).2,fun c hc=>(ha (c * 2 + 1) (by omega)).2,fun c hc=>(hp c hc).2⟩
end Esc
end
section
open Go.RowKit
open Json (Part Wr Txt)
namespace Pip
open Esc (Tabs TabsAt)
theorem step_tabs (T : Tabs) {p : Pp} {b n : Nat} {h : Own.Heap} {w : World} (hi : p.Is b h) (hw : Own.Has w h) (hf : p.Fits n) (hn : n ≤ 80000) (hv : p.input.V) (x : UInt8) (hB : ∀ x ∈ Own.blocks h, Esc.tabsEnd ≤ x) (hT : TabsAt T w) :
  Calls Tryz.prog 81 #[.pointer (some ⟨b,0,none⟩),.int .u8 (x.toNat:Int)] w (PpDoes (p.step (textT T) x) b h w):=by
 cases hX:p.output with
 | json W=>exact step_any (wrote_json (txt_any T)) (reads_kind _) hi hw hf hn (by rw [hX];rfl) rfl x (fun _=>Pp.step_ok hf hv x) hB hT.size hT
 | cbor W=>exact step_any (wrote_cbor (textT T)) (reads_kind _) hi hw hf hn (by rw [hX];rfl) rfl x (fun _ _ _=>trivial) (fun _ _=>Nat.zero_le _) (Nat.zero_le _) trivial
 | pack W=>exact step_any (wrote_pack (textT T)) (reads_kind _) hi hw hf hn (by rw [hX];rfl) rfl x (fun _ _ _=>trivial) (fun _ _=>Nat.zero_le _) (Nat.zero_le _) trivial
theorem end_tabs (T : Tabs) {p : Pp} {b n : Nat} {h : Own.Heap} {w : World} (hi : p.Is b h) (hw : Own.Has w h) (hf : p.Fits n) (hn : n ≤ 80000) (hv : p.input.V) (hB : ∀ x ∈ Own.blocks h, Esc.tabsEnd ≤ x) (hT : TabsAt T w) :
  Calls Tryz.prog 84 #[.pointer (some ⟨b,0,none⟩)] w (PpDoes (p.fin (textT T)) b h w):=by
 cases hX:p.output with
 | json W=>exact end_any (wrote_json (txt_any T)) hi hw hf hn (by rw [hX];rfl) (fun _=>Pp.fin_ok hf hv) hB hT.size hT
 | cbor W=>exact end_any (wrote_cbor (textT T)) hi hw hf hn (by rw [hX];rfl) (fun _ _ _=>trivial) (fun _ _=>Nat.zero_le _) (Nat.zero_le _) trivial
 | pack W=>exact end_any (wrote_pack (textT T)) hi hw hf hn (by rw [hX];rfl) (fun _ _ _=>trivial) (fun _ _=>Nat.zero_le _) (Nat.zero_le _) trivial
theorem Pp.new_held (s:Setup):(Pp.new s).heldLen=0:=by
 unfold Pp.heldLen Pp.new
 dsimp only
 split
 ·rfl
 ·rename_i k
  split at k
  ·obtain rfl:=Option.some.inj k;rfl
  ·cases k
theorem all_len_tabs (T:Tabs) (s:Setup) (hr:right s=true) (l:List UInt8):((Pp.new s).all (textT T) l).2.length <= 6012 * (18 * l.length):=by
 have hf:=Pp.Fits.new s hr;have h0:=Pp.new_held s;have ht:=Pp.told_any (textT T) s hr l
 cases hX:(Pp.new s).output with
 | json W =>
  have:=(wrote_json (txt_any T)).wok.all_len l hf (by rw [hX];rfl) ht.step;rw [h0,Nat.zero_add] at this;omega
 | cbor W =>
  have:=(wrote_cbor (textT T)).wok.all_len l hf (by rw [hX];rfl) (fun _ _ _ _ _=>trivial);rw [h0,Nat.zero_add] at this;omega
 | pack W =>
  have:=(wrote_pack (textT T)).wok.all_len l hf (by rw [hX];rfl) (fun _ _ _ _ _=>trivial);rw [h0,Nat.zero_add] at this;omega
theorem batch_len_tabs (T:Tabs) (s:Setup) (hr:right s=true) (l:List UInt8):(batch (textT T) s l).1.length <= 6012 * (18 * (l.length + 1)):=by
 have hf:=Pp.Fits.new s hr;have hfa:=hf.all (textT T) l;have h0:=Pp.new_held s;have ht:=Pp.told_any (textT T) s hr l;have hka:=Pp.all_kind (textT T) l (Pp.new s);rw [batch_all _ _ hr,List.length_append]
 cases hX:(Pp.new s).output with
 | json W =>
  have h1:=(wrote_json (txt_any T)).wok.all_len l hf (by rw [hX];rfl) ht.step;have h2:=(wrote_json (txt_any T)).wok.fin_len hfa (hka.trans (by rw [hX];rfl)) ht.fin;rw [h0,Nat.zero_add] at h1;omega
 | cbor W =>
  have h1:=(wrote_cbor (textT T)).wok.all_len l hf (by rw [hX];rfl) (fun _ _ _ _ _=>trivial);have h2:=(wrote_cbor (textT T)).wok.fin_len hfa (hka.trans (by rw [hX];rfl)) (fun _ _ _=>trivial);rw [h0,Nat.zero_add] at h1;omega
 | pack W =>
  have h1:=(wrote_pack (textT T)).wok.all_len l hf (by rw [hX];rfl) (fun _ _ _ _ _=>trivial);have h2:=(wrote_pack (textT T)).wok.fin_len hfa (hka.trans (by rw [hX];rfl)) (fun _ _ _=>trivial);rw [h0,Nat.zero_add] at h1;omega
theorem step_len_tabs (T:Tabs) (s:Setup) (hr:right s=true) (l:List UInt8) (x:UInt8):(((Pp.new s).all (textT T) l).1.step (textT T) x).2.1.length <= 6012 * (18 * (l.length + 1)):=by
 have:=all_len_tabs T s hr (l ++ [x]);rw [Pp.all_snoc,List.length_append,List.length_append,List.length_singleton] at this;omega
end Pip
end
section
open Go.RowKit
open Json (Part)
namespace Pip
section
variable {c:Core} {T:TypeId} {b:Nat} {post:List Value} {h:Own.Heap} {w:World}
theorem cheldq_any {n : Nat} (hi : c.Is T b post h) (hw : Own.Has w h) (hf : c.Fits n) :
  Calls Tryz.prog 186 #[.pointer (some ⟨b,0,none⟩)] w fun e w'=>e = .returned (.int .i64 (c.held:Int)) /\ ∃ m,w'=w.drewN m:=by
 have hs1:=hf.s;have hd:=hf.deep;have hd2:=hf.depth;obtain ⟨oa,oc,sa,sc,ho,hs,rfl,h1,h2⟩:=hi.opened_;have c3:=hw.cell b _ _ mcs 3 _ rfl;have c1:=hw.cell b _ _ mcs 1 _ rfl;have c7:=hw.cell b _ _ mcs 7 _ rfl;have HP:=hhh (show c.held=if c.e ≠ 0 then 0 else c.s.length + c.opened.length from rfl);generalize c.held=O at HP |-;have HW:=hhh (show (c.s.length:Int) + (c.opened.length:Int)=((c.s.length + c.opened.length:Nat):Int) by omega);rcases Nat.eq_zero_or_pos c.e with h0 | h0
 ·have HQ:=hhh (show O=c.s.length + c.opened.length by rw [HP.o,if_neg (by omega)])
  rw [h0] at c3;clear hi hw h1 h2 HP h0 hf;go_enter Tryz.func186,Tryz.ntmps186;go_wp2;go_quiet (fail);go_wp2;go_ret;exact ⟨by rw [HQ.o];exact Own.ret_int HW.o,_,rfl⟩
 ·have hne:((c.e:Int) != 0)=true:=by rw [bne_iff_ne];omega
  have HQ:=hhh (show O=0 by rw [HP.o,if_pos (by omega)]);clear hi hw h1 h2 HP h0 hf;go_enter Tryz.func186,Tryz.ntmps186;go_wp2;go_ret;exact ⟨by rw [HQ.o];rfl,0,rfl⟩
end
section
variable {p:Jin} {b:Nat} {h:Own.Heap} {w:World}
theorem jheldq_any (hi : p.Is b h) (hw : Own.Has w h) (hf : p.Fits) :
  Calls Tryz.prog 156 #[.pointer (some ⟨b,0,none⟩)] w fun e w'=>e = .returned (.int .i64 (p.held:Int)) /\ ∃ m,w'=w.drewN m:=by
 obtain ⟨c26,-⟩:=hi.e_cell hw;by_cases he:p.e=0
 ·have HP:=hhh (show p.held=p.l.held + p.maps.length by unfold Jin.held;rw [if_neg (by omega)])
  have hB:=hf.l.held;have hM:p.maps.length <= 16:=Nat.le_trans hf.maps hf.depth;obtain ⟨mv,hm,hl,hs,il,rfl⟩:=hi;have HL:=hhh (fun n=>(lheld_any il (hw.left.drewN n)).mono fun e u hu=>(hu:e = .returned (.int .i64 (p.l.held:Int)) /\ u=w.drewN n));obtain ⟨a,c,rfl⟩:=hs.len;rw [List.length_map] at *
  obtain ⟨hpo,pp,sv,hb,hp,hB2,rfl⟩:=il;have c24:=hw.left.cell b _ _ mcs 24 _ rfl;generalize p.l.held=L at HP HL hB;generalize p.held=PH at HP |-;generalize p.maps.length=M at *
  rw [he] at c26;clear hw hf hs he hp hB2 hpo;go_enter Tryz.func156,Tryz.ntmps156;go_wp2_with (fail);go_quiet ((go_at_call 158;exact Calls.quiet_of_same (HL.o _)));go_wp2;go_ret;exact ⟨by rw [HP.o];exact congrArg (fun z=>Ending.returned (.int .i64 z)) (show (L:Int) + (M:Int)=((L + M:Nat):Int) by omega),_,rfl⟩
 ·have HP:=hhh (show p.held=0 by unfold Jin.held;rw [if_pos he])
  have hmb:((p.e:Int) != 0)=true:=by simp;omega
  generalize p.held=PH at HP |-;clear hi hw hf he;go_enter Tryz.func156,Tryz.ntmps156;go_wp2;go_ret;exact ⟨by rw [HP.o];rfl,0,rfl⟩
end
section
variable {p:Cin} {b:Nat} {h:Own.Heap} {w:World}
theorem cinheldq_any {n : Nat} (hi : p.Is b h) (hw : Own.Has w h) (hf : p.c.Fits n) :
  Calls Tryz.prog 184 #[.pointer (some ⟨b,0,none⟩)] w fun e w'=>e = .returned (.int .i64 (p.c.held:Int)) /\ ∃ m,w'=w.drewN m:=by
 have HO:=hhh (cheldq_any hi hw hf);clear hi hw hf;go_enter Tryz.func184,Tryz.ntmps184;go_wp2_with (fail);refine HO.o.mono ?_;rintro e w2 ⟨rfl,m,rfl⟩;go_wp2;go_ret;exact ⟨rfl,m,rfl⟩
end
section
variable {p:Pin} {b:Nat} {h:Own.Heap} {w:World}
theorem pinheldq_any {n : Nat} (hi : p.Is b h) (hw : Own.Has w h) (hf : p.c.Fits n) :
  Calls Tryz.prog 209 #[.pointer (some ⟨b,0,none⟩)] w fun e w'=>e = .returned (.int .i64 (p.c.held:Int)) /\ ∃ m,w'=w.drewN m:=by
 have HO:=hhh (cheldq_any hi hw hf);clear hi hw hf;go_enter Tryz.func209,Tryz.ntmps209;go_wp2_with (fail);refine HO.o.mono ?_;rintro e w2 ⟨rfl,m,rfl⟩;go_wp2;go_ret;exact ⟨rfl,m,rfl⟩
end
end Pip
end
section
open Go.RowKit
open Json (Part Wr)
namespace Pip
theorem stgheld_nil (w:World):Calls Tryz.prog 104 #[.pointer none] w fun e w'=>e = .returned (.int .i64 0) /\ w=w':=by
 go_enter Tryz.func104,Tryz.ntmps104;go_wp2;go_ret;exact ⟨rfl,rfl⟩
def sizeH:Option Stg -> Nat
 | none=>0
 | some s=>s.size
theorem stgheld_opt {o : Option Stg} {v : Value} {h : Own.Heap} {w : World} (hi : HoldIs o v h) (hw : Own.Has w h) :
  Calls Tryz.prog 104 #[v] w fun e w'=>e = .returned (.int .i64 (sizeH o:Int)) /\ w=w':=by
 cases o with
 | none =>
  obtain ⟨rfl,rfl⟩:=hi;exact stgheld_nil w
 | some s =>
  obtain ⟨b,rfl,i⟩:=hi;exact stgheld_any i hw
def Drew (w u:World):Prop:=∃ m,u=w.drewN m
theorem Drew.refl (w:World):Drew w w:=⟨0,rfl⟩
theorem Drew.drewN {w u:World} (h:Drew w u) (n:Nat):Drew w (u.drewN n):=by
 obtain ⟨m,rfl⟩:=h;exact ⟨m + n,World.drewN_drewN ..⟩
theorem Drew.has {w u:World} {h:Own.Heap} (d:Drew w u) (hw:Own.Has w h):Own.Has u h:=by
 obtain ⟨m,rfl⟩:=d;exact hw.drewN m
def Reader.fnH:Reader -> Nat
 | .json _=>156
 | .cbor _=>184
 | .pack _=>209
theorem rheld_any {r : Reader} {b n : Nat} {h : Own.Heap} {w : World} (hi : r.Is b h) (hw : Own.Has w h) (hf : r.Fits n) :
  Calls Tryz.prog r.fnH #[.pointer (some ⟨b,0,none⟩)] w fun e w'=>e = .returned (.int .i64 (r.held:Int)) /\ ∃ m,w'=w.drewN m:=by
 cases r with
 | json p=>exact jheldq_any (p:=p) hi hw hf
 | cbor p=>exact cinheldq_any (p:=p) hi hw (show p.Fits n from hf).c
 | pack p=>exact pinheldq_any (p:=p) hi hw (show p.Fits n from hf).c
theorem held_any {p : Pp} {b n : Nat} {h : Own.Heap} {w : World} (hi : p.Is b h) (hw : Own.Has w h) (hf : p.Fits n) (hd : p.input.depth ≤ 16) :
  Calls Tryz.prog 86 #[.pointer (some ⟨b,0,none⟩)] w fun e w'=>e = .returned (.int .i64 (p.held:Int)) /\ ∃ m,w'=w.drewN m:=by
 have HM:=hhh (may_any hi hw);by_cases hm:p.may=0
 ·have HP:=hhh (show p.held=p.input.held + sizeH p.hold by unfold Pp.held;rw [if_neg (by simp [hm])];cases p.hold <;> rfl)
  have hR:=Nat.le_trans hf.input.held (Nat.add_le_add_left hd 200);have hZ:sizeH p.hold <= 2000:=by
   cases hh:p.hold with
   | none=>exact Nat.zero_le _
   | some s=>exact Nat.le_trans (hf.hold s hh).size (hf.hold s hh).limit
  rw [hm] at HM;obtain ⟨rb,wb,hv,hr,hw0,hh,rfl,iR,iW,iH⟩:=hi;have hL:∀ u,Drew w u -> Calls Tryz.prog p.input.fnH #[.pointer (some ⟨rb,0,none⟩)] u fun e u'=>e = .returned (.int .i64 (p.input.held:Int)) /\ Drew w u':=by
   intro u t;refine (rheld_any iR ((t.has hw).right (a:=[_])).left hf.input).mono ?_;rintro e u' ⟨he,m,rfl⟩;exact ⟨he,t.drewN m⟩
  have HL:=hhh hL;have HS:=hhh (fun (u:World) (t:Drew w u)=>stgheld_opt iH (((t.has hw).right (a:=[_])).right).right);have HT0:=hhh (Drew.refl w);have HC:=hhh (fun (u:World) (t:Drew w u)=>(t.has hw).cell b _ _ mcs 2 _ rfl);have c0:=hw.cell b _ _ mcs 0 _ rfl;have c2:=hw.cell b _ _ mcs 2 _ rfl;obtain ⟨R,hRe⟩:∃ R,R=p.input.held:=⟨_,rfl⟩;obtain ⟨Z,hZe⟩:∃ Z,Z=sizeH p.hold:=⟨_,rfl⟩;rw [<- hRe] at hR HP HL;rw [<- hZe] at hZ HP HS;have hwrap:IntKind.i64.wrap ((R:Int) + (Z:Int))=((R + Z:Nat):Int):=by rw [IntKind.wrap_i64];omega
  have HWr:=hhh hwrap;generalize p.held=PH at HP |-;obtain ⟨pi,po,ph,pv,pe⟩:=p;simp only at c0 c2;clear hw hf hm hd iR iW iH hL hRe hZe hR hZ hwrap
  cases pi
  case json pj =>
   have hTA:=readerJ;simp only [Reader.ty] at c0;simp only [Reader.fnH] at HL;go_enter Tryz.func86,Tryz.ntmps86;go_wp2_with (fail);refine HM.o.mono ?_;rintro e w1 ⟨rfl,rfl⟩;go_wp2_with (fail)
   go_region_with (first
    | (go_at_call 156;refine (HL.o _ (by first | exact HT0.o | exact HT0.o.drewN _)).mono ?_;rintro e W ⟨rfl,t⟩;have c2':=HC.o _ t)
    | (go_at_call 104;refine (HS.o _ (by first | exact HT0.o | exact HT0.o.drewN _ | assumption | exact Drew.drewN (by assumption) _)).mono ?_;rintro e W ⟨rfl,rfl⟩))
   all_goals
    go_wp2;go_ret;exact ⟨by rw [HP.o];exact congrArg (fun z=>Ending.returned (.int .i64 z)) HWr.o,by first | assumption | exact Drew.drewN (by assumption) _⟩
  case cbor pj =>
   have hTA:=readerC;simp only [Reader.ty] at c0;simp only [Reader.fnH] at HL;go_enter Tryz.func86,Tryz.ntmps86;go_wp2_with (fail);refine HM.o.mono ?_;rintro e w1 ⟨rfl,rfl⟩;go_wp2_with (fail)
   go_region_with (first
    | (go_at_call 184;refine (HL.o _ (by first | exact HT0.o | exact HT0.o.drewN _)).mono ?_;rintro e W ⟨rfl,t⟩;have c2':=HC.o _ t)
    | (go_at_call 104;refine (HS.o _ (by first | exact HT0.o | exact HT0.o.drewN _ | assumption | exact Drew.drewN (by assumption) _)).mono ?_;rintro e W ⟨rfl,rfl⟩))
   all_goals
    go_wp2;go_ret;exact ⟨by rw [HP.o];exact congrArg (fun z=>Ending.returned (.int .i64 z)) HWr.o,by first | assumption | exact Drew.drewN (by assumption) _⟩
  case pack pj =>
   have hTA:=readerP;simp only [Reader.ty] at c0;simp only [Reader.fnH] at HL;go_enter Tryz.func86,Tryz.ntmps86;go_wp2_with (fail);refine HM.o.mono ?_;rintro e w1 ⟨rfl,rfl⟩;go_wp2_with (fail)
   go_region_with (first
    | (go_at_call 209;refine (HL.o _ (by first | exact HT0.o | exact HT0.o.drewN _)).mono ?_;rintro e W ⟨rfl,t⟩;have c2':=HC.o _ t)
    | (go_at_call 104;refine (HS.o _ (by first | exact HT0.o | exact HT0.o.drewN _ | assumption | exact Drew.drewN (by assumption) _)).mono ?_;rintro e W ⟨rfl,rfl⟩))
   all_goals
    go_wp2;go_ret;exact ⟨by rw [HP.o];exact congrArg (fun z=>Ending.returned (.int .i64 z)) HWr.o,by first | assumption | exact Drew.drewN (by assumption) _⟩
 ·have HP:=hhh (show p.held=0 by unfold Pp.held;rw [if_pos hm])
  have hmb:((p.may:Int) != 0)=true:=by rw [bne_iff_ne];omega
  generalize p.held=PH at HP |-;generalize p.may=m at HM hmb;clear hi hw hf hm hd;go_enter Tryz.func86,Tryz.ntmps86;go_wp2_with (fail);refine HM.o.mono ?_;rintro e w1 ⟨rfl,rfl⟩;go_wp2;go_ret;exact ⟨by rw [HP.o];rfl,0,rfl⟩
end Pip
end
section
open Go.RowKit
namespace Ses
open Pip
open Json (Part)
def PipeIs:Option Pp -> Value -> Own.Heap -> Prop
 | none,v,h=>v = .pointer none /\ h=[]
 | some p,v,h=>∃ b,v = .pointer (some ⟨b,0,none⟩) /\ p.Is b h
def post (s:St) (pv:Value):List Value :=
 [.string ⟨s.header.toArray⟩,.int .i64 s.setup.from_,.int .i64 s.setup.to,.int .i64 s.setup.depth,.int .i64 s.setup.stage,.int .i64 s.setup.limit,.bool s.told,pv,.bool s.half,.bool s.ended,.int .i64 (s.e:Int)]
abbrev row0 (s:St) (sb rb:Nat) (lv pv:Value):Nat × Obj:=Queue.at_ sb 96 [.pointer (some ⟨rb,0,none⟩)] lv s.out (post s pv)
structure At (s:St) (sb rb bb:Nat) (r:Ring.St) (lv pv:Value) (hq hp:Own.Heap):Prop where
 f:r.Fits
 l:r.l.length=64
 a:r.all=s.inb
 q:Queue.Is s.out lv hq
 p:PipeIs s.p pv hp
def Is (s:St) (sb:Nat) (h:Own.Heap):Prop :=
 ∃ (rb bb:Nat) (r:Ring.St) (lv pv:Value) (hq hp:Own.Heap),At s sb rb bb r lv pv hq hp /\ h=row0 s sb rb lv pv :: (hq ++ (Ring.heap r rb bb ++ hp))
theorem At.n {s:St} {sb rb bb:Nat} {r:Ring.St} {lv pv:Value} {hq hp:Own.Heap} (i:At s sb rb bb r lv pv hq hp):r.n=s.inb.length:=by
 rw [<- i.a,Ring.St.length_all]
theorem has_ring {w:World} {x:Nat × Obj} {hq g hp:Own.Heap} (h:Own.Has w (x :: (hq ++ (g ++ hp)))):Own.Has w g:=(h.right (a:=x :: hq)).left
theorem has_pipe {w:World} {x:Nat × Obj} {hq g hp:Own.Heap} (h:Own.Has w (x :: (hq ++ (g ++ hp)))):Own.Has w hp:=(h.right (a:=x :: hq)).right
theorem has_queue {w:World} {x:Nat × Obj} {hq g hp:Own.Heap} (h:Own.Has w (x :: (hq ++ (g ++ hp)))):Own.Has w (x :: hq):=Own.Has.left (a:=x :: hq) h
theorem turn_queue {x y:Nat × Obj} {hq hq' g hp:Own.Heap} {u v:World} (t:Own.Turn (x :: hq) (y :: hq') u v) (h:Own.Has u (x :: (hq ++ (g ++ hp)))):Own.Turn (x :: (hq ++ (g ++ hp))) (y :: (hq' ++ (g ++ hp))) u v :=
 Own.Turn.frame (r:=g ++ hp) t h
theorem turn_ring {x:Nat × Obj} {hq g g' hp:Own.Heap} {u v:World} (t:Own.Turn g g' u v) (h:Own.Has u (x :: (hq ++ (g ++ hp)))):Own.Turn (x :: (hq ++ (g ++ hp))) (x :: (hq ++ (g' ++ hp))) u v :=
 Own.Turn.amid (l:=x :: hq) t h
theorem turn_pipe {x:Nat × Obj} {hq g hp hp':Own.Heap} {u v:World} (t:Own.Turn hp hp' u v) (h:Own.Has u (x :: (hq ++ (g ++ hp)))):Own.Turn (x :: (hq ++ (g ++ hp))) (x :: (hq ++ (g ++ hp'))) u v:=by
 have e:∀ z,x :: (hq ++ (g ++ z))=(x :: (hq ++ g)) ++ z:=fun z=>by simp
 rw [e,e];rw [e] at h;exact t.behind h
theorem new_any (w:World):Calls Tryz.prog 28 #[] w fun e w'=>∃ sb h,e = .returned (.pointer (some ⟨sb,0,none⟩)) /\ Is St.new sb h /\ Own.Turn [] h w w':=by
 have HR:=hhh (fun W=>Ring.new_any 64 (by omega) (by omega) W);go_enter Tryz.func28,Tryz.ntmps28;go_wp2_with (fail);refine (HR.o _).mono ?_;rintro e W1 ⟨rb,bb,rfl,ht⟩;go_wp2;go_ret;refine ⟨W1.heap.size,_,rfl,⟨rb,bb,⟨List.replicate 64 0,0,0⟩,.slice none 0 0,.pointer none,[],[],⟨⟨by decide,by decide,by decide⟩,rfl,rfl,Queue.Is.none,rfl,rfl⟩,rfl⟩,?_⟩;have t:=ht.alloc (.cells #[.pointer (some ⟨rb,0,none⟩),.slice none 0 0,.int .i64 0,.string ⟨#[]⟩,.int .i64 0,.int .i64 0,.int .i64 0,.int .i64 0,.int .i64 0,.bool false,.pointer none,.bool false,.bool false,.int .i64 0] 96);exact t
section
variable {s:St} {sb:Nat} {h:Own.Heap} {w:World}
theorem ready_any (i : Is s sb h) (hw : Own.Has w h) :
  Calls Tryz.prog 38 #[.pointer (some ⟨sb,0,none⟩)] w fun e w'=>e = .returned (.bool s.ready) /\ w'=w:=by
 obtain ⟨rb,bb,r,lv,pv,hq,hp,a,rfl⟩:=i;have cell:=fun j v hj=>hw.cell sb _ _ mcs j v hj
 have c0:=cell 0 _ rfl;have c11:=cell 11 _ rfl;have c12:=cell 12 _ rfl;have HRL:=hhh (Ring.len_any (has_ring hw));have HQL:=hhh (Queue.len_any hw mcs 1 rfl);rw [a.n] at HRL;have HE:=hhh (show s.ready=(!s.ended && decide (s.out.length < 64) && (decide (0 < s.inb.length) || s.half)) from rfl);generalize s.ready=R at HE |-;generalize s.half=hf at c11 HE;generalize s.ended=en at c12 HE;generalize s.out.length=N at HE HQL;generalize s.inb.length=M at HE HRL;clear cell hw a
 cases en
 case true =>
  go_enter Tryz.func38,Tryz.ntmps38;go_wp2;go_ret;exact ⟨Own.ret_bool HE.o.symm,rfl⟩
 by_cases hN:N < 64
 case neg =>
  go_enter Tryz.func38,Tryz.ntmps38;go_wp2_with (fail);refine HQL.o.mono ?_;rintro e1 W1 ⟨rfl,rfl⟩;go_wp2
  all_goals go_ret
  all_goals exact ⟨Own.ret_bool (by rw [HE.o,decide_eq_false hN];rfl),rfl⟩
 by_cases hM:0 < M
 case pos =>
  go_enter Tryz.func38,Tryz.ntmps38;go_wp2_with (fail);refine HQL.o.mono ?_;rintro e1 W1 ⟨rfl,rfl⟩;go_wp2_with (fail);refine HRL.o.mono ?_;rintro e1 W1 ⟨rfl,rfl⟩;go_wp2
  all_goals go_ret
  all_goals exact ⟨Own.ret_bool (by rw [HE.o,decide_eq_true hN,decide_eq_true hM];rfl),rfl⟩
 have hM0:M=0:=by omega
 subst hM0
 cases hf
 all_goals
  go_enter Tryz.func38,Tryz.ntmps38;go_wp2_with (fail);refine HQL.o.mono ?_;rintro e1 W1 ⟨rfl,rfl⟩;go_wp2_with (fail);refine HRL.o.mono ?_;rintro e1 W1 ⟨rfl,rfl⟩;go_wp2
  all_goals go_ret
  all_goals exact ⟨Own.ret_bool (by rw [HE.o,decide_eq_true hN];rfl),rfl⟩
theorem extract_all (b:ByteArray) (k:Nat) (h:k <= b.size):(b.extract 0 k).size=k /\ (b.extract 0 k).data.toList=b.data.toList.take k:=by
 constructor
 ·rw [ByteArray.size_extract];omega
 ·rw [ByteArray.data_extract,Array.toList_extract];simp
theorem feed_any (i : Is s sb h) (hw : Own.Has w h) (b : ByteArray) (hb : b.size ≤ 1000000) (room : Int) :
  Calls Tryz.prog 35 #[.pointer (some ⟨sb,0,none⟩),.string b,.int .i64 room] w fun e w'=>e = .returned (.int .i64 ((s.takes b.data.toList room:Nat):Int)) /\
   ∃ h',Is (s.feed b.data.toList room) sb h' /\ Own.Turn h h' w w':=by
 obtain ⟨rb,bb,r,lv,pv,hq,hp,a,rfl⟩:=i;have cell:=fun j v hj=>hw.cell sb _ _ mcs j v hj
 have c0:=cell 0 _ rfl;have c11:=cell 11 _ rfl;have c12:=cell 12 _ rfl;have hn:=a.n;have hl:=a.l;have hbl:b.data.toList.length=b.size:=Array.length_toList;have Hw:=hhh hw;have AA:=hhh a;by_cases hs:(s.half || s.ended)=true
 ·have HT:=hhh (show s.takes b.data.toList room=0 by unfold St.takes;rw [if_pos hs])
  have HF:=hhh (show s.feed b.data.toList room=s by unfold St.feed;rw [HT.o];simp);have HI:Is s sb _:=⟨rb,bb,r,lv,pv,hq,hp,a,rfl⟩;have HI2:=hhh (HF.o.symm ▸ HI:Is (s.feed b.data.toList room) sb _);clear HI;clear cell hw hn hl hb hbl a
  cases hh:s.half <;> cases he:s.ended <;> (first | (rw [hh,he] at hs;exact absurd hs (by decide)) | skip)
  all_goals
   rw [hh] at c11;rw [he] at c12;clear hs hh he;go_enter Tryz.func35,Tryz.ntmps35;go_wp2;go_ret;exact ⟨Own.ret_int (by rw [HT.o];rfl),_,HI2.o,Own.Turn.refl Hw.o⟩
 ·have hhalf:s.half=false:=by cases hh:s.half <;> simp_all
  have hend:s.ended=false:=by cases hh:s.ended <;> simp_all
  obtain ⟨k,hk⟩:∃ k,k=min b.size room.toNat:=⟨_,rfl⟩;have hkb:k <= b.size:=by omega
  have hx:=extract_all b k hkb;have HT:=hhh (show s.takes b.data.toList room=min (b.extract 0 k).size (r.l.length - r.n) by unfold St.takes;rw [if_neg hs,hx.1,hk,hbl,hl,hn]);have HP:=hhh (fun W (hW:Own.Has W (Ring.heap r rb bb))=>Ring.put_any hW a.f (b.extract 0 k) (by rw [hx.1];omega) _ HT.o);rw [hhalf] at c11;rw [hend] at c12;have HA:=hhh (And.intro hn hx);have HB:=hhh (And.intro hb (And.intro hbl hl));obtain ⟨R,hR⟩:∃ R:Int,R=max room 0:=⟨_,rfl⟩;have hm1:(if room < 0 then 0 else room)=R:=by split <;> omega
  have hm2:max room 0=R:=hR.symm;have hm3:(if R < (b.size:Int) then R else (b.size:Int))=(k:Int):=by split <;> omega
  have hm4:min (b.size:Int) R=(k:Int):=by omega
  have hm5:(if (b.size:Int) < R then (b.size:Int) else R)=(k:Int):=by split <;> omega
  have hm6:(if 0 < room then room else 0)=R:=by split <;> omega
  clear cell hw hn hl hs hb hbl hx a;have hkI:(k:Int) <= (b.size:Int):=by omega
  have HK:=hhh (And.intro hk (And.intro hkb hR));clear hk hkb hR;go_enter Tryz.func35,Tryz.ntmps35;go_wp2;go_still_tail 11,(by kernel_rfl);go_wp2_with (fail);refine (HP.o _ (has_ring Hw.o.drew)).mono ?_;rintro e W1 ⟨r',rfl,f',hl',ha',ht⟩;go_wp2;go_ret;refine ⟨rfl,_,⟨rb,bb,r',lv,pv,hq,hp,⟨f',hl'.trans AA.o.l,?_,AA.o.q,AA.o.p⟩,rfl⟩,?_⟩
  ·obtain ⟨h3,h6,h7⟩:=HA.o
   rw [ha',AA.o.a,h7,List.take_take];have h8:=HT.o;rw [h6] at h8;show s.inb ++ _=s.inb ++ List.take (s.takes b.data.toList room) b.data.toList;rw [show min (s.takes b.data.toList room) k=s.takes b.data.toList room by omega]
  ·exact ((Own.Turn.refl Hw.o).drew).trans (turn_ring ht Hw.o.drew)
end
end Ses
end
section
namespace Ses
open Pip
open Json (Part)
structure St.Good (T:Esc.Tabs) (n:Nat) (s:St):Prop where
 inb:s.inb.length <= 64
 out:s.out.length <= 300000000 * n
 head:s.header.length <= n
 early:s.told=false -> s.p=none
 late:s.told=true -> s.ended=false -> ∃ p,s.p=some p
 over:s.ended=true -> s.p=none /\ s.inb=[]
 pipe:∀ p,s.p=some p -> right s.setup=true /\ p.may=0 /\ ∃ l,l.length <= n /\ p=((Pp.new s.setup).all (textT T) l).1
variable {T:Esc.Tabs} {n m:Nat} {s:St}
theorem Good.new:St.new.Good T 0 :=
 ⟨Nat.zero_le _,Nat.zero_le _,Nat.zero_le _,fun _=>rfl,(fun h=>by cases h),(fun h=>by cases h),(fun p h=>by cases h)⟩
theorem St.Good.mono (g:s.Good T n) (h:n <= m):s.Good T m :=
 ⟨g.inb,Nat.le_trans g.out (Nat.mul_le_mul_left _ h),Nat.le_trans g.head h,g.early,g.late,g.over,fun p hp=>by
  obtain ⟨h1,h2,l,h3,h4⟩:=g.pipe p hp
  exact ⟨h1,h2,l,Nat.le_trans h3 h,h4⟩⟩
theorem stop_good (e:Nat) (told:Bool) (ho:s.out.length + 2 <= 300000000 * m) (hh:s.header.length <= m):(s.stop e told).Good T m :=
 ⟨Nat.zero_le _,by show (s.out ++ [_,_]).length <= _;rw [List.length_append];exact ho,hh,fun _=>rfl,(fun _ h=>by cases h),fun _=>⟨rfl,rfl⟩,(fun p h=>by cases h)⟩
theorem takes_le (s:St) (b:List UInt8) (room:Int):s.takes b room <= 64 - s.inb.length /\ s.takes b room <= b.length /\ s.takes b room <= room.toNat:=by
 unfold St.takes;split <;> omega
theorem St.Good.feed (g:s.Good T n) (b:List UInt8) (room:Int):(s.feed b room).Good T n:=by
 refine ⟨?_,g.out,g.head,g.early,g.late,fun h=>?_,g.pipe⟩
 ·show (s.inb ++ b.take _).length <= 64
  have:=takes_le s b room;have:=g.inb;rw [List.length_append,List.length_take];omega
 ·have h0:s.ended=true:=h
  obtain ⟨h1,h2⟩:=g.over h0;refine ⟨h1,?_⟩;show s.inb ++ b.take (s.takes b room)=[];rw [h2,show s.takes b room=0 by unfold St.takes;rw [h0,Bool.or_true];rfl];rfl
theorem St.Good.fits (g:s.Good T n) {p:Pp} (h:s.p=some p):p.Fits (19 * n) /\ p.input.V /\ p.input.depth <= 16 /\ p.held <= 2300:=by
 obtain ⟨hr,_,l,hl,rfl⟩:=g.pipe p h;have hb:=(right_iff _).1 hr;have hd:=(Pp.Under.all (textT T) l (Pp.new_under s.setup)).2;rw [Pp.new_depth] at hd;have hh:=(Pp.held_le (textT T) s.setup hr l).1;refine ⟨(Pp.Fits.all (textT T) l (Pp.Fits.new s.setup hr)).mono (by omega),Pp.all_v (textT T) l (Reader.V.new _ _),by omega,by omega⟩
theorem step_len {T:Esc.Tabs} (s:Setup) (hr:right s=true) (l:List UInt8) (x:UInt8) (hl:l.length <= 2600):(((Pp.new s).all (textT T) l).1.step (textT T) x).2.1.length <= 290000000:=by
 have:=step_len_tabs T s hr l x;omega
theorem fin_len {T:Esc.Tabs} (s:Setup) (hr:right s=true) (l:List UInt8) (hl:l.length <= 2600):(((Pp.new s).all (textT T) l).1.fin (textT T)).2.1.length <= 290000000:=by
 have:=batch_len_tabs T s hr l;rw [batch_all _ _ hr,List.length_append] at this;omega
theorem byte_good (g:s.Good T n) (hn:n <= 2600) (p:Pp) (hp:s.p=some p) (he:s.ended=false) (ht:s.told=true) (b:UInt8) (l:List UInt8) (hl:l.length <= 64):(({ s with inb:=l }:St).byte (textT T) p b).Good T (n + 1):=by
 obtain ⟨hr,hm,d,hd,hpd⟩:=g.pipe p hp;have hlen:(p.step (textT T) b).2.1.length <= 290000000:=by rw [hpd];exact step_len s.setup hr d b (by omega)
 have ho:=g.out;have hh:=g.head;unfold St.byte
 dsimp only
 split
 ·refine stop_good _ _ ?_ (Nat.le_trans hh (Nat.le_succ _))
  show (s.out ++ _).length + 2 <= _;rw [List.length_append];omega
 ·rename_i h0
  refine ⟨hl,?_,Nat.le_trans hh (Nat.le_succ _),fun h=>?_,fun _ _=>⟨_,rfl⟩,fun h=>?_,fun q hq=>?_⟩
  ·show (s.out ++ _).length <= _
   rw [List.length_append];omega
  ·rw [show s.told=false from h] at ht;cases ht
  ·rw [show s.ended=true from h] at he;cases he
  ·cases hq
   refine ⟨hr,?_,d ++ [b],by rw [List.length_append,List.length_singleton];omega,?_⟩
   ·rw [Pp.step_may];omega
   ·rw [Pp.all_snoc,<- hpd]
theorem greet_good (g:s.Good T n) (he:s.ended=false) (ht:s.told=false) (b:UInt8) (l:List UInt8) (hl:l.length <= 64):(({ s with inb:=l }:St).greet b).Good T (n + 1):=by
 have ho:=g.out;have hh:(s.header ++ [b]).length <= n + 1:=by rw [List.length_append,List.length_singleton];have:=g.head;omega
 have hp:=g.early ht;unfold St.greet
 dsimp only
 split
 ·exact ⟨hl,by show s.out.length <= _;omega,hh,fun _=>hp,(fun h=>by rw [show s.told=true from h] at ht;cases ht),(fun h=>by rw [show s.ended=true from h] at he;cases he),(fun p h=>by rw [show s.p=some p from h] at hp;cases hp)⟩
 ·split
  ·rename_i h0
   have hg:=get_good _ h0;refine ⟨hl,by show (s.out ++ [75]).length <= _;rw [List.length_append,List.length_singleton];omega,hh,(fun h=>by cases h),fun _ _=>⟨_,rfl⟩,(fun h=>by rw [show s.ended=true from h] at he;cases he),fun p h=>?_⟩
   cases h
   exact ⟨hg.2.1,Pp.new_may _,[],Nat.zero_le _,rfl⟩
  ·refine stop_good _ _ ?_ hh
   show s.out.length + 2 <= _;omega
theorem once_good (g:s.Good T n) (hn:n <= 2600) (he:s.ended=false):(s.once (textT T)).Good T (n + 1):=by
 have ho:=g.out;have hh:=g.head
 cases hi:s.inb with
 | nil =>
  cases ht:s.told with
  | false =>
   rw [show s.once (textT T)=s.stop 3 false by unfold St.once;rw [hi,ht]];exact stop_good _ _ (by omega) (by omega)
  | true =>
   obtain ⟨p,hp⟩:=g.late ht he;obtain ⟨hr,hm,d,hd,hpd⟩:=g.pipe p hp;have hlen:(p.fin (textT T)).2.1.length <= 290000000:=by rw [hpd];exact fin_len s.setup hr d (by omega)
   rw [show s.once (textT T)=({ s with out:=s.out ++ (p.fin (textT T)).2.1 }:St).stop (p.fin (textT T)).2.2 true by unfold St.once;rw [hi,ht,hp]];refine stop_good _ _ ?_ (Nat.le_trans hh (Nat.le_succ _));show (s.out ++ _).length + 2 <= _;rw [List.length_append];omega
 | cons b l =>
  have hl:l.length <= 64:=by have:=g.inb;rw [hi,List.length_cons] at this;omega
  cases ht:s.told with
  | false =>
   rw [show s.once (textT T)=({ s with inb:=l }:St).greet b by unfold St.once;rw [hi,ht]];exact greet_good g he ht b l hl
  | true =>
   obtain ⟨p,hp⟩:=g.late ht he;rw [show s.once (textT T)=({ s with inb:=l }:St).byte (textT T) p b by unfold St.once;rw [hi,ht,hp]];exact byte_good g hn p hp he ht b l hl
theorem ready_on {s:St} (h:s.ready=true):s.ended=false:=by
 unfold St.ready at h
 cases he:s.ended with
 | false=>rfl
 | true=>rw [he] at h;cases h
theorem paid_good (g:s.Good T n) (hn:n <= 2600) (he:s.ended=false) (may:Option (Int -> Bool)):(s.paid (textT T) may).Good T (n + 1):=by
 have h1:=once_good g hn he;unfold St.paid;split
 ·refine stop_good _ _ ?_ h1.head
  show (List.take _ _).length + 2 <= _;have:=g.out;rw [List.length_take];omega
 ·exact h1
theorem run_good (may:Option (Int -> Bool)):∀ (k n:Nat) (s:St),s.Good T n -> n + k <= 2600 -> (s.run (textT T) may k).1.Good T (n + k)
 | 0,_,_,g,_=>g
 | k + 1,n,s,g,h=>by
  unfold St.run
  split
  ·rename_i hr
   have:=run_good may k (n + 1) _ (paid_good g (by omega) (ready_on hr) may) (by omega)
   rw [show n + (k + 1)=n + 1 + k by omega]
   exact this
  ·exact g.mono (by omega)
theorem charge_le (g:s.Good T n):s.charge <= 300000000 * n + 2400:=by
 unfold St.charge;have h1:=g.inb;have h2:=g.out;split
 ·omega
 ·cases hp:s.p with
  | none=>simp only [heldO];omega
  | some p=>have h3:=(g.fits hp).2.2.2;simp only [heldO];omega
end Ses
end
section
open Go.RowKit
namespace Ses
open Pip
section
variable {T:Esc.Tabs} {n:Nat} {s:St} {sb:Nat} {h:Own.Heap} {w:World}
theorem charge_any (i : Is s sb h) (hw : Own.Has w h) (g : s.Good T n) (hn : n ≤ 2600) :
  Calls Tryz.prog 63 #[.pointer (some ⟨sb,0,none⟩)] w fun e w'=>e = .returned (.int .i64 (s.charge:Int)) /\ ∃ m,w'=w.drewN m:=by
 obtain ⟨rb,bb,r,lv,pv,hq,hp,a,rfl⟩:=i;have cell:=fun j v hj=>hw.cell sb _ _ mcs j v hj
 have c0:=cell 0 _ rfl;have c10:=cell 10 _ rfl;have c12:=cell 12 _ rfl;have HRL:=hhh (fun m=>Ring.len_any (r:=r) (rb:=rb) (bb:=bb) (w:=w.drewN m) ((has_ring hw).drewN m));have HQL:=hhh (fun m=>Queue.len_any (w:=w.drewN m) (hw.drewN m) mcs 1 rfl);have hin:=g.inb;have hout:=g.out;rw [a.n] at HRL;obtain ⟨MI,hMI⟩:∃ z:Int,z=(s.inb.length:Int):=⟨_,rfl⟩;obtain ⟨NI,hNI⟩:∃ z:Int,z=(s.out.length:Int):=⟨_,rfl⟩;rw [<- hMI] at HRL;rw [<- hNI] at HQL;have hM0:0 <= MI:=by omega
 have hM1:MI <= 64:=by omega
 have hN0:0 <= NI:=by omega
 have hN1:NI <= 1000000000000:=by omega
 have hwr:IntKind.i64.wrap (MI + NI)=MI + NI:=by rw [IntKind.wrap_i64];omega
 have HC:=hhh (show (s.charge:Int)=MI + NI + (if s.ended then 0 else (heldO s.p:Int) + 2) by
  unfold St.charge;rw [hMI,hNI];cases s.ended <;> simp)
 have HH:=hhh (fun (p:Pp) (hpp:s.p=some p)=>(g.fits hpp));have A:=hhh (And.intro hw (And.intro hn a.p));clear cell hw hin hout hMI hNI a g hn
 cases he:s.ended with
 | true =>
  rw [he] at c12 HC;clear he;go_enter Tryz.func63,Tryz.ntmps63;go_wp2;go_quiet (first | exact Calls.quiet_of_same (HRL.o _) | exact Calls.quiet_of_same (HQL.o _));go_wp2;go_ret;exact ⟨Own.ret_int (by rw [HC.o];simp),_,rfl⟩
 | false =>
  rw [he] at c12 HC;clear he
  cases hp1:s.p with
  | none =>
   have hA:=A.o.2.2;rw [hp1] at hA HC;obtain ⟨rfl,rfl⟩:=hA;clear hp1 A HH;go_enter Tryz.func63,Tryz.ntmps63;go_wp2;go_quiet (first | exact Calls.quiet_of_same (HRL.o _) | exact Calls.quiet_of_same (HQL.o _));go_wp2;go_ret;exact ⟨Own.ret_int (by rw [HC.o];simp [heldO]),_,rfl⟩
  | some p =>
   have hA:=A.o.2.2;rw [hp1] at hA HC;obtain ⟨pb,rfl,hpi⟩:=hA;obtain ⟨hf,_,hd,hh⟩:=HH.o p hp1;have hasp:=has_pipe A.o.1;have HP:=hhh (fun m=>held_any hpi (hasp.drewN m) hf hd);obtain ⟨HI,hHI⟩:∃ z:Int,z=(p.held:Int):=⟨_,rfl⟩;rw [<- hHI] at HP;have hH0:0 <= HI:=by omega
   have hH1:HI <= 2300:=by omega
   have HC2:=hhh (show (s.charge:Int)=MI + NI + HI + 2 by rw [HC.o,hHI];simp only [heldO];simp;omega);clear hp1 A HH hHI hf hd hh hpi hasp HC;go_enter Tryz.func63,Tryz.ntmps63;go_wp2;go_quiet (first | exact Calls.quiet_of_same (HRL.o _) | exact Calls.quiet_of_same (HQL.o _));go_wp2_with (fail);refine (HP.o _).mono ?_;rintro e W1 ⟨rfl,m1,rfl⟩;go_wp2;go_ret;exact ⟨Own.ret_int (by rw [HC2.o]),_,rfl⟩
end
end Ses
end
section
open Go.RowKit
namespace Ses
open Pip
theorem mod_byte (e:Nat):UInt8.ofNat ((e:Int) % 256).toNat=UInt8.ofNat e:=by
 apply UInt8.toNat_inj.1;rw [UInt8.toNat_ofNat',UInt8.toNat_ofNat'];omega
theorem turn_nopipe {a:Own.Heap} {x:Nat × Obj} {hq g hp:Own.Heap} {u v:World} (t:Own.Turn a (x :: (hq ++ (g ++ hp))) u v):Own.Turn a (x :: (hq ++ (g ++ []))) u v:=by
 have e:x :: (hq ++ (g ++ hp))=(x :: (hq ++ (g ++ []))) ++ hp:=by simp
 rw [e] at t;exact t.drop
def last (e:Nat) (told:Bool):List UInt8:=[if told then 255 else 78,UInt8.ofNat e]
section
variable {s:St} {sb:Nat} {h:Own.Heap} {w:World}
theorem turn_over {a R : Own.Heap} {u v : World} {pre : List Value} (hp : pre.length = 1) {lv pv : Value} {c : List UInt8} (t : Own.Turn a (Queue.at_ sb 96 pre lv c (post s pv) :: R) u v) (e : Nat) :
  Own.Turn a (Queue.at_ sb 96 pre lv c (post { s with ended:=true,e:=e } (.pointer none)) :: R) u (((v.setCell ⟨sb,12,none⟩ (.bool true)).setCell ⟨sb,13,none⟩ (.int .i64 (e:Int))).setCell ⟨sb,10,none⟩ (.pointer none)):=by
 obtain ⟨p,rfl⟩:∃ p,pre=[p]:=by
  match pre,hp with
  | [p],_=>exact ⟨p,rfl⟩
 have t2:=((t.set 12 (.bool true) (by simp [post])).set 13 (.int .i64 (e:Int)) (by simp [post])).set 10 (.pointer none) (by simp [post]);exact t2
theorem end_any (i : Is s sb h) (hw : Own.Has w h) (e : Nat) (told : Bool) (ho : s.out.length ≤ 999999999990) :
  Calls Tryz.prog 73 #[.pointer (some ⟨sb,0,none⟩),.int .i64 (e:Int),.bool told] w fun r w'=>(∃ v,r = .returned v) /\ ∃ h',Is (s.stop e told) sb h' /\ Own.Turn h h' w w':=by
 obtain ⟨rb,bb,r,lv,pv,hq,hp,a,rfl⟩:=i;have HN:=hhh (fun W=>no_any (e:Int) W);have HTr:=hhh (fun W=>trailer_any (e:Int) W);rw [mod_byte] at HN HTr;have Hw:=hhh hw;have AA:=hhh (And.intro a ho);clear hw a ho
 cases told
 case false =>
  go_enter Tryz.func73,Tryz.ntmps73;go_wp2;go_region_with (first | (go_at_call 56;refine (HN.o _).mono ?_;rintro e1 W1 ⟨rfl,b1⟩;have T1:=hhh (((Own.Turn.refl Hw.o).drew).trans (Own.Turn.of_below Hw.o.drew b1));clear b1) | (go_at_call 89;refine (Queue.add_any (has_queue T1.o.has) AA.o.1.q 1 rfl ⟨([78,UInt8.ofNat e]:List UInt8).toArray⟩ (by have:=AA.o.2;show s.out.length + 2 <= 1000000000000;omega)).mono ?_;rintro e2 W2 ⟨⟨v2,rfl⟩,lv',hq',q',t2⟩;have T2:=hhh (T1.o.trans (turn_queue t2 T1.o.has));have Q2:=hhh q';clear t2 q'))
  all_goals
   have T3:=turn_over (pre:=[.pointer (some ⟨rb,0,none⟩)]) rfl T2.o e;have cell:=fun j v hj=>T2.o.has.cell sb 96 _ mcs j v hj
   have c0:=cell 0 _ rfl;have c10:=cell 10 _ rfl;have c12:=cell 12 _ rfl;have c13:=cell 13 _ rfl;have f10:=T2.o.has.free sb 96 _ mcs 10;have f12:=T2.o.has.free sb 96 _ mcs 12;have f13:=T2.o.has.free sb 96 _ mcs 13;have TT3:=hhh T3;clear T3 cell;go_wp2_with (fail);refine (Ring.clear_any (has_ring TT3.o.has) AA.o.1.f).mono ?_;rintro e3 W3 ⟨r',⟨v3,rfl⟩,f',hl',ha',t4⟩;go_wp2;go_end0;exact ⟨⟨_,rfl⟩,_,⟨rb,bb,r',lv',.pointer none,hq',[],⟨f',hl'.trans AA.o.1.l,ha',Q2.o,rfl,rfl⟩,rfl⟩,turn_nopipe (TT3.o.trans (turn_ring t4 TT3.o.has))⟩
 case true =>
  go_enter Tryz.func73,Tryz.ntmps73;go_wp2;go_region_with (first | (go_at_call 59;refine (HTr.o _).mono ?_;rintro e1 W1 ⟨rfl,b1⟩;have T1:=hhh (((Own.Turn.refl Hw.o).drew).trans (Own.Turn.of_below Hw.o.drew b1));clear b1) | (go_at_call 89;refine (Queue.add_any (has_queue T1.o.has) AA.o.1.q 1 rfl ⟨([255,UInt8.ofNat e]:List UInt8).toArray⟩ (by have:=AA.o.2;show s.out.length + 2 <= 1000000000000;omega)).mono ?_;rintro e2 W2 ⟨⟨v2,rfl⟩,lv',hq',q',t2⟩;have T2:=hhh (T1.o.trans (turn_queue t2 T1.o.has));have Q2:=hhh q';clear t2 q'))
  all_goals
   have T3:=turn_over (pre:=[.pointer (some ⟨rb,0,none⟩)]) rfl T2.o e;have cell:=fun j v hj=>T2.o.has.cell sb 96 _ mcs j v hj
   have c0:=cell 0 _ rfl;have c10:=cell 10 _ rfl;have c12:=cell 12 _ rfl;have c13:=cell 13 _ rfl;have f10:=T2.o.has.free sb 96 _ mcs 10;have f12:=T2.o.has.free sb 96 _ mcs 12;have f13:=T2.o.has.free sb 96 _ mcs 13;have TT3:=hhh T3;clear T3 cell;go_wp2_with (fail);refine (Ring.clear_any (has_ring TT3.o.has) AA.o.1.f).mono ?_;rintro e3 W3 ⟨r',⟨v3,rfl⟩,f',hl',ha',t4⟩;go_wp2;go_end0;exact ⟨⟨_,rfl⟩,_,⟨rb,bb,r',lv',.pointer none,hq',[],⟨f',hl'.trans AA.o.1.l,ha',Q2.o,rfl,rfl⟩,rfl⟩,turn_nopipe (TT3.o.trans (turn_ring t4 TT3.o.has))⟩
end
end Ses
end
section
open Go.RowKit
namespace Ses
open Pip
section
variable {T:Esc.Tabs} {n:Nat} {s:St} {sb rb bb:Nat} {r:Ring.St} {lv pv:Value} {hq hp h:Own.Heap} {w:World}
theorem take_one (a : At s sb rb bb r lv pv hq hp) (hw : Own.Has w (row0 s sb rb lv pv :: (hq ++ (Ring.heap r rb bb ++ hp)))) :
  Calls Tryz.prog 88 #[.pointer (some ⟨rb,0,none⟩),.int .i64 1] w fun e w'=>e = .returned (.string ⟨(s.inb.take 1).toArray⟩) /\ ∃ r',At { s with inb:=s.inb.drop 1 } sb rb bb r' lv pv hq hp /\
   Own.Turn (row0 s sb rb lv pv :: (hq ++ (Ring.heap r rb bb ++ hp))) (row0 s sb rb lv pv :: (hq ++ (Ring.heap r' rb bb ++ hp))) w w':=by
 refine (Ring.take_any (has_ring hw) a.f 1 (by omega)).mono ?_;rintro e w' ⟨r',rfl,f',hl',ha',t⟩;rw [a.a];exact ⟨rfl,r',⟨f',hl'.trans a.l,by rw [ha',a.a],a.q,a.p⟩,turn_ring t hw⟩
theorem empty_of {S:ByteArray} (h:S.data.toList=[]):S.toList.isEmpty=true:=by rw [ByteArray.toList_eq,h];rfl
theorem empty_off {S:ByteArray} (h:S.data.toList ≠ []):S.toList.isEmpty=false:=by rw [ByteArray.toList_eq];cases hs:S.data.toList with | nil=>exact absurd hs h | cons x l=>rfl
theorem once_more (i : Is s sb h) (hw : Own.Has w h) (ho : s.out.length ≤ 999999999990) (hi : s.inb = []) (ht : s.told = false) :
  Calls Tryz.prog 71 #[.pointer (some ⟨sb,0,none⟩)] w fun r w'=>(∃ v,r = .returned v) /\ ∃ h',Is (s.stop 3 false) sb h' /\ Own.Turn h h' w w':=by
 obtain ⟨rb,bb,r,lv,pv,hq,hp,a,rfl⟩:=i;have HTk:=hhh (take_one a hw);have c0:=hw.cell sb 96 _ mcs 0 _ rfl;obtain ⟨S,hS⟩:∃ S:ByteArray,S=⟨(s.inb.take 1).toArray⟩:=⟨_,rfl⟩;have e0:=empty_of (S:=S) (by rw [hS,hi];rfl);rw [<- hS] at HTk;have HO:=hhh ho;clear hw a hS hi ho;go_enter Tryz.func71,Tryz.ntmps71;go_wp2_with (fail);refine HTk.o.mono ?_;rintro e w1 ⟨rfl,r',a1,t1⟩;have c9:=t1.has.cell sb 96 _ mcs 9 _ rfl;rw [ht] at c9;have HE:=hhh (show Calls Tryz.prog 73 #[.pointer (some ⟨sb,0,none⟩),.int .i64 3,.bool false] w1 _ from end_any (s:={ s with inb:=s.inb.drop 1 }) ⟨rb,bb,r',lv,pv,hq,hp,a1,rfl⟩ t1.has 3 false HO.o);have T1:=hhh t1;clear a1 t1 HTk ht;go_wp2_with (fail);refine HE.o.mono ?_;rintro e w2 ⟨⟨v,rfl⟩,h',i',t'⟩;have H:=hhh (And.intro i' (T1.o.trans t'));clear i' t' HE;go_wp2;go_end0;exact ⟨⟨_,rfl⟩,h',H.o.1,H.o.2⟩
theorem once_fin (i : Is s sb h) (hw : Own.Has w h) (g : s.Good T n) (hn : n ≤ 2600) (hB : ∀ x ∈ Own.blocks h, Esc.tabsEnd ≤ x) (hT : Esc.TabsAt T w) (hi : s.inb = []) (ht : s.told = true) (p : Pp) (hp0 : s.p = some p) :
  Calls Tryz.prog 71 #[.pointer (some ⟨sb,0,none⟩)] w fun r w'=>(∃ v,r = .returned v) /\ ∃ h',Is (({ s with out:=s.out ++ (p.fin (textT T)).2.1 }:St).stop (p.fin (textT T)).2.2 true) sb h' /\ Own.Turn h h' w w':=by
 obtain ⟨rb,bb,r,lv,pv,hq,hp,a,rfl⟩:=i;have HTk:=hhh (take_one a hw);have c0:=hw.cell sb 96 _ mcs 0 _ rfl;obtain ⟨S,hS⟩:∃ S:ByteArray,S=⟨(s.inb.take 1).toArray⟩:=⟨_,rfl⟩;have e0:=empty_of (S:=S) (by rw [hS,hi];rfl);rw [<- hS] at HTk;obtain ⟨hf,hv,_,_⟩:=g.fits hp0;have hfl:(p.fin (textT T)).2.1.length <= 290000000:=by
  obtain ⟨hr,hm,d,hd,hpd⟩:=g.pipe p hp0;rw [hpd];exact fin_len s.setup hr d (by omega)
 have HEnd:=hhh (fun (b:Nat) (hh:Own.Heap) (W:World) (hi:p.Is b hh) (hW:Own.Has W hh) (hBW:∀ x ∈ Own.blocks hh,Esc.tabsEnd <= x) (hTW:Esc.TabsAt T W)=>end_tabs T hi hW hf (by omega) hv hBW hTW);generalize p.fin (textT T)=o at HEnd hfl |-;obtain ⟨p2,t2,e2⟩:=o;simp only at HEnd hfl |-;have ho:s.out.length + t2.length + 2 <= 999999999990:=by have:=g.out;omega
 have HO:=hhh ho;have HBT:=hhh (And.intro hw (And.intro hB hT));have HP0:=hhh hp0;clear hw a hS hi ho hf hv hfl g hn hp0 hB hT;go_enter Tryz.func71,Tryz.ntmps71;go_wp2_with (fail);refine HTk.o.mono ?_;rintro e w1 ⟨rfl,r',a1,t1⟩;have c9:=t1.has.cell sb 96 _ mcs 9 _ rfl;have c10:=t1.has.cell sb 96 _ mcs 10 _ rfl;rw [ht] at c9;have hPI:=a1.p;rw [show ({ s with inb:=s.inb.drop 1 }:St).p=some p from HP0.o] at hPI;obtain ⟨pb,rfl,hpi⟩:=hPI;have hB1:=t1.least HBT.o.2.1 HBT.o.2.2.size;have hT1:=HBT.o.2.2.of (t1.below HBT.o.2.1 HBT.o.2.2.size)
 have HE:=hhh (HEnd.o pb hp w1 hpi (has_pipe t1.has) (fun x hx=>hB1 x (by
  simp only [Own.blocks,List.map_cons,List.map_append,List.mem_cons,List.mem_append] at hx |-
  exact .inr (.inr (.inr hx)))) hT1)
 have T1:=hhh t1;have A1:=hhh a1;clear a1 t1 HTk ht hpi hB1 hT1;go_wp2_with (fail);refine HE.o.mono ?_;rintro e w2 ⟨hp2,rfl,i2,t2'⟩;have T2:=hhh (T1.o.trans (turn_pipe t2' T1.o.has));have HA:=hhh (Queue.add_any (has_queue T2.o.has) A1.o.q 1 rfl ⟨t2.toArray⟩ (by have:=HO.o;show s.out.length + t2.length <= 1000000000000;omega));have I2:=hhh i2;clear i2 t2' HE;go_wp2_with (fail);refine HA.o.mono ?_;rintro e w3 ⟨⟨v,rfl⟩,lv3,hq3,q3,t3⟩;have T3:=hhh (T2.o.trans (turn_queue t3 T2.o.has));have i3:Is ({ s with inb:=s.inb.drop 1,out:=s.out ++ t2,p:=some p2 }:St) sb _:=⟨rb,bb,r',lv3,.pointer (some ⟨pb,0,none⟩),hq3,hp2,⟨A1.o.f,A1.o.l,A1.o.a,q3,pb,rfl,I2.o⟩,rfl⟩;have HF:=hhh (end_any i3 T3.o.has e2 true (by have:=HO.o;show (s.out ++ t2).length <= _;rw [List.length_append];omega));clear q3 t3 i3 HA;go_wp2_with (fail);refine HF.o.mono ?_;rintro e w4 ⟨⟨v,rfl⟩,h',i',t'⟩;have H:=hhh (And.intro i' (T3.o.trans t'));clear i' t' HF;go_wp2;go_end0;exact ⟨⟨_,rfl⟩,h',H.o.1,H.o.2⟩
theorem once_step (i : Is s sb h) (hw : Own.Has w h) (g : s.Good T n) (hn : n ≤ 2600) (hB : ∀ x ∈ Own.blocks h, Esc.tabsEnd ≤ x) (hT : Esc.TabsAt T w) (b : UInt8) (l : List UInt8) (hi : s.inb = b :: l) (ht : s.told = true) (p : Pp) (hp0 : s.p = some p) :
  Calls Tryz.prog 71 #[.pointer (some ⟨sb,0,none⟩)] w fun r w'=>(∃ v,r = .returned v) /\ ∃ h',Is (({ s with inb:=l }:St).byte (textT T) p b) sb h' /\ Own.Turn h h' w w':=by
 obtain ⟨rb,bb,r,lv,pv,hq,hp,a,rfl⟩:=i;have HTk:=hhh (take_one a hw);have c0:=hw.cell sb 96 _ mcs 0 _ rfl;obtain ⟨S,hS⟩:∃ S:ByteArray,S=⟨(s.inb.take 1).toArray⟩:=⟨_,rfl⟩;have e0:=empty_off (S:=S) (by rw [hS,hi];simp);rw [<- hS] at HTk;have hz:S.size=1:=by rw [hS,hi];rfl
 have hz0:0 < S.size:=by omega
 have hS0:S[0]=b:=by
  have:S=⟨#[b]⟩:=by rw [hS,hi];rfl
  subst this;rfl
 obtain ⟨hf,hv,_,_⟩:=g.fits hp0;have hfl:(p.step (textT T) b).2.1.length <= 290000000:=by
  obtain ⟨hr,hm,d,hd,hpd⟩:=g.pipe p hp0;rw [hpd];exact step_len s.setup hr d b (by omega)
 have HEnd:=hhh (fun (pb:Nat) (hh:Own.Heap) (W:World) (hi:p.Is pb hh) (hW:Own.Has W hh) (hBW:∀ x ∈ Own.blocks hh,Esc.tabsEnd <= x) (hTW:Esc.TabsAt T W)=>step_tabs T hi hW hf (by omega) hv S[0] hBW hTW);rw [hS0] at HEnd;unfold St.byte;simp only;generalize p.step (textT T) b=o at HEnd hfl |-;obtain ⟨p2,t2,e2⟩:=o;simp only at HEnd hfl |-;rw [<- hS0] at HEnd;have HR1:=hhh (show e2=0 -> (if e2 ≠ 0 then ({ s with inb:=l,out:=s.out ++ t2,p:=some p2 }:St).stop e2 true else ({ s with inb:=l,out:=s.out ++ t2,p:=some p2 }:St))=({ s with inb:=l,out:=s.out ++ t2,p:=some p2 }:St) from fun h0=>if_neg (not_not_intro h0));have HR2:=hhh (show e2 ≠ 0 -> (if e2 ≠ 0 then ({ s with inb:=l,out:=s.out ++ t2,p:=some p2 }:St).stop e2 true else ({ s with inb:=l,out:=s.out ++ t2,p:=some p2 }:St))=({ s with inb:=l,out:=s.out ++ t2,p:=some p2 }:St).stop e2 true from fun h0=>if_pos h0);generalize (if e2 ≠ 0 then ({ s with inb:=l,out:=s.out ++ t2,p:=some p2 }:St).stop e2 true else ({ s with inb:=l,out:=s.out ++ t2,p:=some p2 }:St))=R at HR1 HR2 |-;have ho:s.out.length + t2.length + 2 <= 999999999990:=by have:=g.out;omega
 have HO:=hhh ho;have HBT:=hhh (And.intro hw (And.intro hB hT));have HP0:=hhh hp0;have HL:=hhh (show s.inb.drop 1=l by rw [hi];rfl);clear hw a hS hi ho hf hv hfl g hn hp0 hB hT hS0;go_enter Tryz.func71,Tryz.ntmps71;go_wp2_with (fail);refine HTk.o.mono ?_;rintro e w1 ⟨rfl,r',a1,t1⟩;have c9:=t1.has.cell sb 96 _ mcs 9 _ rfl;have c10:=t1.has.cell sb 96 _ mcs 10 _ rfl;rw [ht] at c9;have hPI:=a1.p;rw [show ({ s with inb:=s.inb.drop 1 }:St).p=some p from HP0.o] at hPI;obtain ⟨pb,rfl,hpi⟩:=hPI;have hB1:=t1.least HBT.o.2.1 HBT.o.2.2.size;have hT1:=HBT.o.2.2.of ((t1.drew).below HBT.o.2.1 HBT.o.2.2.size)
 have HE:=hhh (HEnd.o pb hp w1.drew hpi (has_pipe t1.has).drew (fun x hx=>hB1 x (by
  simp only [Own.blocks,List.map_cons,List.map_append,List.mem_cons,List.mem_append] at hx |-
  exact .inr (.inr (.inr hx)))) hT1)
 have T1:=hhh t1.drew;have A1:=hhh a1;clear a1 t1 HTk ht hpi hB1 hT1 HEnd;go_wp2_with (fail);go_region_with (first | (go_at_call 81;refine HE.o.mono ?_;rintro e w2 ⟨hp2,rfl,i2,t2'⟩;have T2:=hhh (T1.o.trans (turn_pipe t2' T1.o.has));have I2:=hhh i2;clear i2 t2'))
 all_goals
  have HA:=hhh (Queue.add_any (has_queue T2.o.has) A1.o.q 1 rfl ⟨t2.toArray⟩ (by have:=HO.o;show s.out.length + t2.length <= 1000000000000;omega));clear HE;go_wp2_with (fail);refine HA.o.mono ?_;rintro e w3 ⟨⟨v,rfl⟩,lv3,hq3,q3,t3⟩;have T3:=hhh (T2.o.trans (turn_queue t3 T2.o.has));have I3:=hhh (show Is ({ s with inb:=l,out:=s.out ++ t2,p:=some p2 }:St) sb _ from ⟨rb,bb,r',lv3,.pointer (some ⟨pb,0,none⟩),hq3,hp2,⟨A1.o.f,A1.o.l,A1.o.a.trans HL.o,q3,pb,rfl,I2.o⟩,rfl⟩);have HF:=hhh (end_any I3.o T3.o.has e2 true (by have:=HO.o;show (s.out ++ t2).length <= _;rw [List.length_append];omega));clear q3 t3 HA;by_cases h0:e2=0
  ·have H0:=hhh (HR1.o h0)
   have hne:((e2:Int) != 0)=false:=by rw [h0];rfl
   clear h0;go_wp2;go_end0;exact ⟨⟨_,rfl⟩,_,H0.o ▸ I3.o,T3.o⟩
  ·have hne:((e2:Int) != 0)=true:=by rw [bne_iff_ne];omega
   have H0:=hhh (HR2.o h0);clear h0;go_wp2_with (fail);refine HF.o.mono ?_;rintro e w4 ⟨⟨v,rfl⟩,h',i',t'⟩;have H:=hhh (And.intro i' (T3.o.trans t'));clear i' t' HF;go_wp2;go_end0;exact ⟨⟨_,rfl⟩,h',H0.o ▸ H.o.1,H.o.2⟩
end
end Ses
end
end Go.Proofs.YtjfblahlkjopcaaGreat
