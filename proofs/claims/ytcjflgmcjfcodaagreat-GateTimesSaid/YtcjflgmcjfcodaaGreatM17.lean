/- Texts of the walk, joined. -/
import Derived.Test.YtcjflgmcjfcodaaGreatM16
import Derived.StillTailTactics
set_option maxRecDepth 100000
set_option maxHeartbeats 8000000
namespace Go.Proofs.Tryz end Go.Proofs.Tryz
namespace Go.Proofs.YtcjflgmcjfcodaaGreat
open Go.Proofs.Tryz
section
open Go.RowKit
namespace Pip
def jV (n:Bool) (m:Nat):Value:=.agg #[.bool n,.int .u64 (m:Int)]
theorem eL {fn : Func} {p u : Tmp} (h : fn.results = #[.cell p 208, .tmp u]) (tmps : Array Value) (W : World) (c : Nat) (n : Bool) (m : Nat)
  (hp:tmps.getD p undef = .pointer (some ⟨c,0,none⟩)) (hg:At.Is W c 208 [] [.bool n,.int .u64 (m:Int)] []) :
  (results fn tmps).run prog W = .ok (.tuple #[jV n m,tmps.getD u undef]) W:=by
 rw [results_cell_tmp h,hp];have:=run_loadVar_row W (P:=prog) c 208 208 #[.bool n,.int .u64 (m:Int)] (0,0) _ hg underlying208 rfl (by kernel_rfl);simp [asAddr,Result.andThen,this,jV]
section
variable (w:World) (b:Nat) (T:TypeId) (pre post:List Value)
theorem aGe (n : Num) (f : n.Fits) (h : At.Is w b T pre n.enc post) (he : n.e ≠ 0) :
  Calls prog 125 #[.pointer (some ⟨b,pre.length,none⟩)] w fun e w'=>e = .returned (.tuple #[jV n.fin.1 n.fin.2.1,.int .i64 (n.fin.2.2:Int)]) /\ Below w.heap.size w w':=by
 have he8:=f.e;obtain ⟨neg,minus,digits,zero,v,top,over,er⟩:=n;simp only at he8 he;have c7:=fun o=>(h.alloc o).cell 7 _ rfl
 have hlt:=h.lt;have hne:¬ b=w.heap.size:=by omega
 have B0:=hhh (fun o=>(Below.refl w.heap.size w).alloc (Nat.le_refl _) o);have HP:=hhh (show Num.fin ⟨neg,minus,digits,zero,v,top,over,er⟩=(false,0,er) by simp [Num.fin,he]);have hne:((er:Int) != 0)=true:=by simp;omega
 clear he h f hlt;go_enter func125,ntmps125;go_wp2;go_region;go_wp2;refine bodyPost_ret (eL rfl _ _ w.heap.size false 0 rfl (At.Is.drew (At.Is.new w _ _))) rfl ?_;rw [HP.o];exact ⟨rfl,(B0.o _).drew⟩
end
end Pip
end
section
open Go.RowKit
namespace Pip
section
variable (w:World) (b:Nat) (T:TypeId) (pre post:List Value)
theorem aH2 (n : Num) (f : n.Fits) (h : At.Is w b T pre n.enc post) :
  Calls prog 125 #[.pointer (some ⟨b,pre.length,none⟩)] w fun e w'=>e = .returned (.tuple #[jV n.fin.1 n.fin.2.1,.int .i64 (n.fin.2.2:Int)]) /\ Below w.heap.size w w':=by
 have hv:=f.v;have he8:=f.e;by_cases he:n.e=0
 case neg=>exact aGe w b T pre post _ f h he
 obtain ⟨neg,minus,digits,zero,v,top,over,er⟩:=n;simp only at hv he8;have c0:=fun o=>(h.alloc o).cell0 _ rfl
 have c2:=fun o=>(h.alloc o).cell 2 _ rfl
 have c4:=fun o=>(h.alloc o).cell 4 _ rfl
 have c5:=fun o=>(h.alloc o).cell 5 _ rfl
 have c6:=fun o=>(h.alloc o).cell 6 _ rfl
 have c7:=fun o=>(h.alloc o).cell 7 _ rfl
 have hlt:=h.lt;have hne:¬ b=w.heap.size:=by omega
 have B0:=hhh (fun o=>(Below.refl w.heap.size w).alloc (Nat.le_refl _) o);clear h hlt f;obtain rfl:er=0:=he
 ·skip
  cases digits
  ·have HP:=hhh (show Num.fin ⟨neg,minus,false,zero,v,top,over,0⟩=(false,0,2) by simp [Num.fin])
   go_enter func125,ntmps125;go_wp2;refine bodyPost_ret (eL rfl _ _ w.heap.size false 0 rfl (At.Is.new w _ _)) rfl ?_;rw [HP.o];exact ⟨rfl,B0.o _⟩
  ·rcases Nat.eq_zero_or_pos v with hv0 | hv0
   ·subst hv0
    cases over
    ·cases top
     ·have HP:=hhh (show Num.fin ⟨neg,minus,true,zero,0,false,false,0⟩=(false,0,0) by simp [Num.fin])
      cases neg
      all_goals
       go_enter func125,ntmps125;go_wp2;refine bodyPost_ret (eL rfl _ _ w.heap.size false 0 rfl (At.Is.new w _ _)) rfl ?_;rw [HP.o];exact ⟨rfl,B0.o _⟩
     ·cases neg
      ·have HP:=hhh (show Num.fin ⟨false,minus,true,zero,0,true,false,0⟩=(false,0,7) by simp [Num.fin])
       go_enter func125,ntmps125;go_wp2;refine bodyPost_ret (eL rfl _ _ w.heap.size false 0 rfl (At.Is.new w _ _)) rfl ?_;rw [HP.o];exact ⟨rfl,B0.o _⟩
      ·have HP:=hhh (show Num.fin ⟨true,minus,true,zero,0,true,false,0⟩=(true,18446744073709551615,0) by simp [Num.fin])
       go_enter func125,ntmps125;go_wp2;refine bodyPost_ret (eL rfl _ _ w.heap.size true 18446744073709551615 rfl (At.Is.new w _ _)) rfl ?_;rw [HP.o];exact ⟨rfl,B0.o _⟩
    ·have HP:=hhh (show Num.fin ⟨neg,minus,true,zero,0,top,true,0⟩=(false,0,7) by simp [Num.fin])
     go_enter func125,ntmps125;go_wp2;refine bodyPost_ret (eL rfl _ _ w.heap.size false 0 rfl (At.Is.new w _ _)) rfl ?_;rw [HP.o];exact ⟨rfl,B0.o _⟩
   ·have hvI:(0:Int) < (v:Int):=by omega
    cases over
    ·cases top
     ·cases neg
      ·have HP:=hhh (show Num.fin ⟨false,minus,true,zero,v,false,false,0⟩=(false,v,0) by simp [Num.fin])
       go_enter func125,ntmps125;go_wp2;refine bodyPost_ret (eL rfl _ _ w.heap.size false v rfl (At.Is.new w _ _)) rfl ?_;rw [HP.o];exact ⟨rfl,B0.o _⟩
      ·have HP:=hhh (show Num.fin ⟨true,minus,true,zero,v,false,false,0⟩=(true,v - 1,0) by
        simp only [Num.fin];simp [hv0]
        omega)
       have HN:=hhh (show ((v - 1:Nat):Int)=(v:Int) - 1 by omega);have hw:IntKind.u64.wrap ((v:Int) - 1)=(v:Int) - 1:=by rw [IntKind.wrap_u64];omega
       clear hv0;go_enter func125,ntmps125;go_wp2;refine bodyPost_ret (eL rfl _ _ w.heap.size true (v - 1) rfl (by rw [HN.o];exact At.Is.new w _ _)) rfl ?_;rw [HP.o];exact ⟨rfl,B0.o _⟩
     ·have HP:=hhh (show Num.fin ⟨neg,minus,true,zero,v,true,false,0⟩=(false,0,7) by simp [Num.fin,hv0])
      cases neg
      all_goals
       go_enter func125,ntmps125;go_wp2;refine bodyPost_ret (eL rfl _ _ w.heap.size false 0 rfl (At.Is.new w _ _)) rfl ?_;rw [HP.o];exact ⟨rfl,B0.o _⟩
    ·have HP:=hhh (show Num.fin ⟨neg,minus,true,zero,v,top,true,0⟩=(false,0,7) by simp [Num.fin])
     go_enter func125,ntmps125;go_wp2;refine bodyPost_ret (eL rfl _ _ w.heap.size false 0 rfl (At.Is.new w _ _)) rfl ?_;rw [HP.o];exact ⟨rfl,B0.o _⟩
end
end Pip
end
end Go.Proofs.YtcjflgmcjfcodaaGreat
