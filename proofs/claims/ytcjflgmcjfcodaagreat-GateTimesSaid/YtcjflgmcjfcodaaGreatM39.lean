/- Texts of the walk, joined. -/
import Derived.Test.YtcjflgmcjfcodaaGreatM24
import Derived.Test.YtcjflgmcjfcodaaGreatM29
import Derived.Deep.RegionLaw
import Derived.Deep.RegionWith
set_option maxRecDepth 100000
set_option maxHeartbeats 8000000
namespace Go.Proofs.Tryz end Go.Proofs.Tryz
namespace Go.Proofs.YtcjflgmcjfcodaaGreat
open Go.Proofs.Tryz
section
open Go.RowKit
namespace Pip
theorem aFb (e:Int) (w:World):(convert 55 9 (.slice (some ⟨w.heap.size,0,none⟩) 1 1)).run prog (w.alloc (.cells #[.int .u8 (e % 256)] 5)) = .ok (.string ⟨([UInt8.ofNat (e % 256).toNat]:List UInt8).toArray⟩) (w.alloc (.cells #[.int .u8 (e % 256)] 5)):=by
 have h:=mN w w.heap.size rfl [UInt8.ofNat (e % 256).toNat] 1 rfl (by decide);have e1:(u8s [UInt8.ofNat (e % 256).toNat]).toArray = #[.int .u8 (e % 256)]:=by
  simp only [u8s,List.map_cons,List.map_nil,UInt8.toNat_ofNat'];rw [show (((e % 256).toNat % 2 ^ 8:Nat):Int)=e % 256 by omega]
 rw [e1] at h;exact h
theorem xW (e:Int) (w:World):Calls prog 94 #[.int .i64 e] w fun r w'=>r = .returned (.string ⟨([UInt8.ofNat (e % 256).toNat]:List UInt8).toArray⟩) /\ Below w.heap.size w w':=by
 have HB:=hhh (fun o=>(Below.refl w.heap.size w).alloc (Nat.le_refl _) o);have hcv:=aFb e w;obtain ⟨S,hS⟩:∃ S:ByteArray,S=⟨([UInt8.ofNat (e % 256).toNat]:List UInt8).toArray⟩:=⟨_,rfl⟩;rw [<- hS] at hcv |-;clear hS;go_enter func94,ntmps94;go_wp2;go_ret;exact ⟨rfl,HB.o _⟩
theorem jP (a b:List UInt8):(⟨a.toArray⟩:ByteArray) ++ ⟨b.toArray⟩=⟨(a ++ b).toArray⟩:=by
 apply ByteArray.ext;simp
theorem aCs (a:UInt8) (l:List UInt8):(⟨#[a]⟩:ByteArray) ++ ⟨l.toArray⟩=⟨(a :: l).toArray⟩:=jP [a] l
theorem aLu (e:Int) (w:World):Calls prog 76 #[.int .i64 e] w fun r w'=>r = .returned (.string ⟨([78,UInt8.ofNat (e % 256).toNat]:List UInt8).toArray⟩) /\ Below w.heap.size w w':=by
 have HN:=hhh (xW e w);have HC:=hhh (aCs 78 [UInt8.ofNat (e % 256).toNat]);obtain ⟨S,hS⟩:∃ S:ByteArray,S=⟨([UInt8.ofNat (e % 256).toNat]:List UInt8).toArray⟩:=⟨_,rfl⟩;have hz:S.size=1:=by rw [hS];rfl
 rw [<- hS] at HN HC;clear hS;go_enter func76,ntmps76;go_wp2_with (fail);refine HN.o.mono ?_;rintro r w1 ⟨rfl,b1⟩;go_wp2;go_ret;exact ⟨by rw [<- HC.o];rfl,b1⟩
theorem xH (e:Int) (w:World):Calls prog 75 #[.int .i64 e] w fun r w'=>r = .returned (.string ⟨([255,UInt8.ofNat (e % 256).toNat]:List UInt8).toArray⟩) /\ Below w.heap.size w w':=by
 have HN:=hhh (xW e w);have HC:=hhh (aCs 255 [UInt8.ofNat (e % 256).toNat]);obtain ⟨S,hS⟩:∃ S:ByteArray,S=⟨([UInt8.ofNat (e % 256).toNat]:List UInt8).toArray⟩:=⟨_,rfl⟩;have hz:S.size=1:=by rw [hS];rfl
 rw [<- hS] at HN HC;clear hS;go_enter func75,ntmps75;go_wp2_with (fail);refine HN.o.mono ?_;rintro r w1 ⟨rfl,b1⟩;go_wp2;go_ret;exact ⟨by rw [<- HC.o];rfl,b1⟩
theorem aJi (w:World):Calls prog 74 #[] w fun r w'=>r = .returned (.string ⟨#[75]⟩) /\ w=w':=by
 go_enter func74,ntmps74;go_wp2;go_ret;exact ⟨rfl,rfl⟩
end Pip
end
end Go.Proofs.YtcjflgmcjfcodaaGreat
