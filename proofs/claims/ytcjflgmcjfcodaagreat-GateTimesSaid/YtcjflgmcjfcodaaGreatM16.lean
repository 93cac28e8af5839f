/- Texts of the walk, joined. -/
import Derived.Test.YtcjflgmcjfcodaaGreatM00
import Derived.Test.YtcjflgmcjfcodaaGreatM04
import Derived.Test.YtcjflgmcjfcodaaGreatM08
import Derived.Test.YtcjflgmcjfcodaaGreatM12
import Derived.BigQuiet
import Derived.BigRegion
import Derived.ChangeAlike
import Derived.Deep.QuietTactic
import Derived.Laws.Externs
import Derived.RegionTactic
set_option maxRecDepth 100000
set_option maxHeartbeats 8000000
namespace Go.Proofs.Tryz end Go.Proofs.Tryz
namespace Go.Proofs.YtcjflgmcjfcodaaGreat
open Go.Proofs.Tryz
section
open Go.RowKit
namespace Pip
def Num.enc (n:Num):List Value:=[.bool n.neg,.bool n.minus,.bool n.digits,.bool n.zero,.int .u64 (n.v:Int),.bool n.top,.bool n.over,.int .i64 (n.e:Int)]
theorem aDs (x y : Nat) (w : World) :
  (callFunc 171 #[.int .u64 (x:Int),.int .u64 (y:Int),.int .u64 0]).run prog w =
   .ok (.value (.tuple #[.int .u64 (((x + y) % 18446744073709551616:Nat):Int),.int .u64 (((x + y) / 18446744073709551616:Nat):Int)])) w:=by
 rw [run_callFunc_extern func171 (by kernel_rfl) (by kernel_rfl) (by kernel_rfl) (e:=add64Entry) (by kernel_rfl),run_add64 x y 0 (by omega) (by omega) (by omega) (by omega)];simp only [Result.andThen];congr 5 <;> omega
section
variable (w:World) (b:Nat) (T:TypeId) (pre post:List Value)
theorem fX (n : Num) (f : n.Fits) (d : Nat) (hd : d ≤ 9) (h : At.Is w b T pre n.enc post) :
  Calls prog 165 #[.pointer (some ⟨b,pre.length,none⟩),.int .u64 (d:Int)] w fun e w'=>e = .returned (.tuple #[]) /\
   At.Is w' b T pre (Num.mk n.neg n.minus n.digits n.zero (n.add d).v (n.add d).top (n.add d).over n.e).enc post /\ At.aV b w w':=by
 obtain ⟨neg,minus,digits,zero,v,top,over,er⟩:=n;have c4:=h.cell 4 _ rfl;have c5:=h.cell 5 _ rfl;have c6:=h.cell 6 _ rfl;have f4:=h.free (pre.length + 4);have f5:=h.free (pre.length + 5);have f6:=h.free (pre.length + 6);have HI:=hhh h;have hv:=f.v;simp only at hv;by_cases h0:top=true \/ over=true
 ·have HA:=hhh (show (Num.mk neg minus digits zero v top over er).add d=⟨neg,minus,digits,zero,v,top,true,er⟩ by unfold Num.add;rw [ifp h0])
  clear h f hv;rcases (show top=true \/ (top=false /\ over=true) by rcases h0 with h | h <;> cases top <;> simp_all) with rfl | ⟨rfl,rfl⟩
  all_goals clear h0
  all_goals go_enter func165,ntmps165
  all_goals go_wp2
  all_goals refine bodyPost_ret (results_none rfl _ _ _) rfl ?_
  all_goals rw [HA.o]
  all_goals exact ⟨rfl,HI.o.set 6 _ (nlb rfl),(At.aV.refl b w).set _ _⟩
 ·have HA:=hhh (show (Num.mk neg minus digits zero v top over er).add d=⟨neg,minus,digits,zero,(v * 10 + d) % 18446744073709551616,(v * 10 + d) / 18446744073709551616 == 1,decide (1 < (v * 10 + d) / 18446744073709551616),er⟩ by unfold Num.add;rw [ifn h0])
  obtain ⟨rfl,rfl⟩:top=false /\ over=false:=by cases top <;> cases over <;> simp_all
  have HM:=hhh (Tryz.bits_Mul64 v 10 hv (by decide));obtain ⟨hi,hhi⟩:∃ hi,hi=v * 10 / 18446744073709551616:=⟨_,rfl⟩;obtain ⟨lo,hlo⟩:∃ lo,lo=v * 10 % 18446744073709551616:=⟨_,rfl⟩;rw [<- hhi,<- hlo] at HM;have hS:=aDs lo d;obtain ⟨lo2,hlo2⟩:∃ x,x=(lo + d) % 18446744073709551616:=⟨_,rfl⟩;obtain ⟨ca,hca⟩:∃ x,x=(lo + d) / 18446744073709551616:=⟨_,rfl⟩;rw [<- hlo2,<- hca] at hS;have e1:(v * 10 + d) % 18446744073709551616=lo2:=by omega
  have e2:(v * 10 + d) / 18446744073709551616=hi + ca:=by omega
  have b1:hi <= 9:=by omega
  have b2:ca <= 1:=by omega
  rw [e1,e2] at HA;clear h f h0 hv hhi hlo hlo2 hca e1 e2 hd;go_enter func165,ntmps165;go_wp2_with (fail);refine (HM.o _).mono ?_;rintro e w1 ⟨rfl,rfl⟩;go_wp2_with (fail);go_end0;rw [HA.o];have he1:((hi:Int) + (ca:Int) == 1)=(hi + ca == 1):=by rw [Bool.eq_iff_iff,beq_iff_eq,beq_iff_eq];omega
  have he2:decide ((1:Int) < (hi:Int) + (ca:Int))=decide (1 < hi + ca):=by rw [Bool.eq_iff_iff,decide_eq_true_iff,decide_eq_true_iff];omega
  rw [he1,he2];exact ⟨rfl,((HI.o.set 4 _ (nlb rfl)).set 5 _ (nlb rfl)).set 6 _ (nlb rfl),(((At.aV.refl b w1).set _ _).set _ _).set _ _⟩
theorem nb (x:UInt8) (k:Int) (h:(x.toNat:Int) ≠ k):((x.toNat:Int) == k)=false:=by simpa using h
theorem yb (x:UInt8) (k:Int) (h:(x.toNat:Int)=k):((x.toNat:Int) == k)=true:=by simpa using h
theorem neb (x y:UInt8) (h:x.toNat ≠ y.toNat):¬ x=y:=fun e=>h (by rw [e])
theorem eqb (x y:UInt8) (h:x.toNat=y.toNat):x=y:=UInt8.toNat_inj.1 h
theorem uV (n : Num) (f : n.Fits) (x : UInt8) (h : At.Is w b T pre n.enc post) :
  Calls prog 158 #[.pointer (some ⟨b,pre.length,none⟩),.int .u8 x.toNat] w fun e w'=>e = .returned (.tuple #[.bool (n.step x).2.1,.int .i64 ((n.step x).2.2:Int)]) /\
   At.Is w' b T pre (n.step x).1.enc post /\ At.aV b w w':=by
 have HA:=hhh (fun d hd=>fX w b T pre post n f d hd h);have Hf:=hhh f;obtain ⟨neg,minus,digits,zero,v,top,over,er⟩:=n;have c0:=h.cell0 _ rfl;have c1:=h.cell 1 _ rfl;have c2:=h.cell 2 _ rfl;have c3:=h.cell 3 _ rfl;have c7:=h.cell 7 _ rfl;have f0:=h.free pre.length;have f1:=h.free (pre.length + 1);have f2:=h.free (pre.length + 2);have f3:=h.free (pre.length + 3);have f7:=h.free (pre.length + 7);have HI:=hhh h;clear h f;have hlt:=UInt8.toNat_lt x;by_cases he:er=0
 ·subst he
  have hdig:isDigit x=(decide (48 <= x.toNat) && decide (x.toNat <= 57)):=rfl;rcases (show (48 <= x.toNat /\ x.toNat <= 57) \/ x.toNat=45 \/ x.toNat=46 \/ x.toNat=101 \/ x.toNat=69 \/ ((x.toNat < 48 \/ 57 < x.toNat) /\ x.toNat ≠ 45 /\ x.toNat ≠ 46 /\ x.toNat ≠ 101 /\ x.toNat ≠ 69) by omega) with hx | hx | hx | hx | hx | hx
  ·-- a digit
   have hd:isDigit x=true:=by rw [hdig];simp [hx.1,hx.2]
   have n45:=neb x 45 (by show x.toNat ≠ 45;omega);have n46:=neb x 46 (by show x.toNat ≠ 46;omega);have n101:=neb x 101 (by show x.toNat ≠ 101;omega);have n69:=neb x 69 (by show x.toNat ≠ 69;omega);have t45:=nb x 45 (by omega);have t46:=nb x 46 (by omega);have t101:=nb x 101 (by omega);have t69:=nb x 69 (by omega);have h1:(48:Int) <= (x.toNat:Int):=by omega
   have h2:(x.toNat:Int) <= 57:=by omega
   have t48:=Int64.kN x 48 48 rfl
   cases zero
   ·have HP:=hhh (show Num.step ⟨neg,minus,digits,false,v,top,over,0⟩ x=(⟨neg,minus,true,!digits && x == 48,(Num.add ⟨neg,minus,digits,false,v,top,over,0⟩ (x.toNat - 48)).v,(Num.add ⟨neg,minus,digits,false,v,top,over,0⟩ (x.toNat - 48)).top,(Num.add ⟨neg,minus,digits,false,v,top,over,0⟩ (x.toNat - 48)).over,0⟩,true,0) by
     unfold Num.step;simp [hd])
    obtain ⟨D,hD⟩:∃ D,D=x.toNat - 48:=⟨_,rfl⟩;have hD2:(x.toNat:Int) - 48=(D:Int):=by omega
    have hA:=HA.o D (by omega);rw [<- hD] at HP;generalize hN:Num.add ⟨neg,minus,digits,false,v,top,over,0⟩ D=N at hA HP;have HA2:=hhh hA;clear hA HA hdig hd n45 n46 n101 n69 hD hN hx;go_enter func158,ntmps158;go_wp2_with (fail);refine HA2.o.mono ?_;rintro e w1 ⟨rfl,i1,o1⟩;have c2:=i1.cell 2 _ rfl;have c3:=i1.cell 3 _ rfl;have f2:=i1.free (pre.length + 2);have f3:=i1.free (pre.length + 3);have I1:=hhh i1;clear i1
    cases digits
    all_goals
     go_wp2;go_ret2;rw [HP.o];exact ⟨rfl,((I1.o.set 3 _ (nlb rfl)).set 2 _ (nlb rfl)),(o1.set _ _).set _ _⟩
   ·have HP:=hhh (show Num.step ⟨neg,minus,digits,true,v,top,over,0⟩ x=(⟨neg,minus,digits,true,v,top,over,2⟩,false,2) by
     unfold Num.step;simp [hd,n45,n46,n101,n69])
    clear hdig hd n45 n46 n101 n69 hx HA
    cases digits
    all_goals
     go_enter func158,ntmps158;go_wp2;go_quiet (fail);go_wp2;go_ret2;rw [HP.o];exact ⟨rfl,(HI.o.set 7 _ (nlb rfl)).drewN _,((At.aV.refl b w).set _ _).drewN _⟩
  ·have hd:isDigit x=false:=by rw [hdig];simp;omega
   have hdk:isDigit 45=false:=by decide
   have n45:=eqb x 45 (by show x.toNat=45;omega);have n46:=neb x 46 (by show x.toNat ≠ 46;omega);have n101:=neb x 101 (by show x.toNat ≠ 101;omega);have n69:=neb x 69 (by show x.toNat ≠ 69;omega);have t45:=yb x 45 (by omega);have t46:=nb x 46 (by omega);have t101:=nb x 101 (by omega);have t69:=nb x 69 (by omega);have t48:=nb x 48 (by omega);have h1:¬ (48:Int) <= (x.toNat:Int):=by omega
   have h1':(x.toNat:Int) < 48:=by omega
   cases digits
   ·cases minus
    ·have HP:=hhh (show Num.step ⟨neg,false,false,zero,v,top,over,0⟩ x=(⟨true,true,false,zero,v,top,over,0⟩,true,0) by unfold Num.step;simp [hdk,n45])
     clear hdig hd hdk n45 n46 n101 n69 hx HA;go_enter func158,ntmps158;go_wp2;go_ret2;rw [HP.o];exact ⟨rfl,((HI.o.set 1 _ (nlb rfl)).set 0 _ (nlb rfl)),((At.aV.refl b w).set _ _).set _ _⟩
    ·have HP:=hhh (show Num.step ⟨neg,true,false,zero,v,top,over,0⟩ x=(⟨neg,true,false,zero,v,top,over,2⟩,false,2) by unfold Num.step;simp [hdk,n45])
     clear hdig hd hdk n45 n46 n101 n69 hx HA;go_enter func158,ntmps158;go_wp2;go_quiet (fail);go_wp2;go_ret2;rw [HP.o];exact ⟨rfl,(HI.o.set 7 _ (nlb rfl)).drewN _,((At.aV.refl b w).set _ _).drewN _⟩
   ·have HP:=hhh (show Num.step ⟨neg,minus,true,zero,v,top,over,0⟩ x=(⟨neg,minus,true,zero,v,top,over,0⟩,false,0) by unfold Num.step;simp [hdk,n45])
    clear hdig hd hdk n45 n46 n101 n69 hx HA
    cases minus
    all_goals
     go_enter func158,ntmps158;go_wp2;go_quiet (fail);go_wp2;go_ret2;rw [HP.o];exact ⟨rfl,HI.o.drewN _,(At.aV.refl b w).drewN _⟩
  ·have hd:isDigit x=false:=by rw [hdig];simp;omega
   have n45:=neb x 45 (by show x.toNat ≠ 45;omega);have hdk:isDigit 46=false:=by decide
   have n46:=eqb x 46 (by show x.toNat=46;omega);have n101:=neb x 101 (by show x.toNat ≠ 101;omega);have n69:=neb x 69 (by show x.toNat ≠ 69;omega);have t45:=nb x 45 (by omega);have t46:=yb x 46 (by omega);have t101:=nb x 101 (by omega);have t69:=nb x 69 (by omega);have t48:=nb x 48 (by omega);have h1:¬ (48:Int) <= (x.toNat:Int):=by omega
   have h1':(x.toNat:Int) < 48:=by omega
   cases digits
   ·have HP:=hhh (show Num.step ⟨neg,minus,false,zero,v,top,over,0⟩ x=(⟨neg,minus,false,zero,v,top,over,2⟩,false,2) by unfold Num.step;simp [hdk,n46])
    clear hdig hd hdk n45 n46 n101 n69 hx HA;go_enter func158,ntmps158;go_wp2;go_quiet (fail);go_wp2;go_ret2;rw [HP.o];exact ⟨rfl,(HI.o.set 7 _ (nlb rfl)).drewN _,((At.aV.refl b w).set _ _).drewN _⟩
   ·have HP:=hhh (show Num.step ⟨neg,minus,true,zero,v,top,over,0⟩ x=(⟨neg,minus,true,zero,v,top,over,6⟩,false,6) by unfold Num.step;simp [hdk,n46])
    clear hdig hd hdk n45 n46 n101 n69 hx HA;go_enter func158,ntmps158;go_wp2;go_quiet (fail);go_wp2;go_ret2;rw [HP.o];exact ⟨rfl,(HI.o.set 7 _ (nlb rfl)).drewN _,((At.aV.refl b w).set _ _).drewN _⟩
  ·have hd:isDigit x=false:=by rw [hdig];simp;omega
   have n45:=neb x 45 (by show x.toNat ≠ 45;omega);have n46:=neb x 46 (by show x.toNat ≠ 46;omega);have hdk:isDigit 101=false:=by decide
   have n101:=eqb x 101 (by show x.toNat=101;omega);have n69:=neb x 69 (by show x.toNat ≠ 69;omega);have t45:=nb x 45 (by omega);have t46:=nb x 46 (by omega);have t101:=yb x 101 (by omega);have t69:=nb x 69 (by omega);have t48:=nb x 48 (by omega);have h1:(48:Int) <= (x.toNat:Int):=by omega
   have h2:¬ (x.toNat:Int) <= 57:=by omega
   have h2':(57:Int) < (x.toNat:Int):=by omega
   cases digits
   ·have HP:=hhh (show Num.step ⟨neg,minus,false,zero,v,top,over,0⟩ x=(⟨neg,minus,false,zero,v,top,over,2⟩,false,2) by unfold Num.step;simp [hdk,n101])
    clear hdig hd hdk n45 n46 n101 n69 hx HA;go_enter func158,ntmps158;go_wp2;go_quiet (fail);go_wp2;go_ret2;rw [HP.o];exact ⟨rfl,(HI.o.set 7 _ (nlb rfl)).drewN _,((At.aV.refl b w).set _ _).drewN _⟩
   ·have HP:=hhh (show Num.step ⟨neg,minus,true,zero,v,top,over,0⟩ x=(⟨neg,minus,true,zero,v,top,over,6⟩,false,6) by unfold Num.step;simp [hdk,n101])
    clear hdig hd hdk n45 n46 n101 n69 hx HA;go_enter func158,ntmps158;go_wp2;go_quiet (fail);go_wp2;go_ret2;rw [HP.o];exact ⟨rfl,(HI.o.set 7 _ (nlb rfl)).drewN _,((At.aV.refl b w).set _ _).drewN _⟩
  ·have hd:isDigit x=false:=by rw [hdig];simp;omega
   have n45:=neb x 45 (by show x.toNat ≠ 45;omega);have n46:=neb x 46 (by show x.toNat ≠ 46;omega);have n101:=neb x 101 (by show x.toNat ≠ 101;omega);have hdk:isDigit 69=false:=by decide
   have n69:=eqb x 69 (by show x.toNat=69;omega);have t45:=nb x 45 (by omega);have t46:=nb x 46 (by omega);have t101:=nb x 101 (by omega);have t69:=yb x 69 (by omega);have t48:=nb x 48 (by omega);have h1:(48:Int) <= (x.toNat:Int):=by omega
   have h2:¬ (x.toNat:Int) <= 57:=by omega
   have h2':(57:Int) < (x.toNat:Int):=by omega
   cases digits
   ·have HP:=hhh (show Num.step ⟨neg,minus,false,zero,v,top,over,0⟩ x=(⟨neg,minus,false,zero,v,top,over,2⟩,false,2) by unfold Num.step;simp [hdk,n69])
    clear hdig hd hdk n45 n46 n101 n69 hx HA;go_enter func158,ntmps158;go_wp2;go_quiet (fail);go_wp2;go_ret2;rw [HP.o];exact ⟨rfl,(HI.o.set 7 _ (nlb rfl)).drewN _,((At.aV.refl b w).set _ _).drewN _⟩
   ·have HP:=hhh (show Num.step ⟨neg,minus,true,zero,v,top,over,0⟩ x=(⟨neg,minus,true,zero,v,top,over,6⟩,false,6) by unfold Num.step;simp [hdk,n69])
    clear hdig hd hdk n45 n46 n101 n69 hx HA;go_enter func158,ntmps158;go_wp2;go_quiet (fail);go_wp2;go_ret2;rw [HP.o];exact ⟨rfl,(HI.o.set 7 _ (nlb rfl)).drewN _,((At.aV.refl b w).set _ _).drewN _⟩
  ·obtain ⟨hr,hx1,hx2,hx3,hx4⟩:=hx
   have hx:=hr;have hd:isDigit x=false:=by rw [hdig];simp;omega
   have n45:=neb x 45 (by show x.toNat ≠ 45;omega);have n46:=neb x 46 (by show x.toNat ≠ 46;omega);have n101:=neb x 101 (by show x.toNat ≠ 101;omega);have n69:=neb x 69 (by show x.toNat ≠ 69;omega);have t45:=nb x 45 (by omega);have t46:=nb x 46 (by omega);have t101:=nb x 101 (by omega);have t69:=nb x 69 (by omega)
   cases digits
   ·have HP:=hhh (show Num.step ⟨neg,minus,false,zero,v,top,over,0⟩ x=(⟨neg,minus,false,zero,v,top,over,2⟩,false,2) by unfold Num.step;simp [hd,n45,n46,n101,n69])
    clear hdig hd n45 n46 n101 n69 hx HA hx1 hx2 hx3 hx4;rcases hr with hr | hr
    ·have h1:(x.toNat:Int) < 48:=by omega
     go_enter func158,ntmps158;go_wp2;go_quiet (fail);go_wp2;go_ret2;rw [HP.o];exact ⟨rfl,(HI.o.set 7 _ (nlb rfl)).drewN _,((At.aV.refl b w).set _ _).drewN _⟩
    ·have h1:(48:Int) <= (x.toNat:Int):=by omega
     have h2:(57:Int) < (x.toNat:Int):=by omega
     go_enter func158,ntmps158;go_wp2;go_quiet (fail);go_wp2;go_ret2;rw [HP.o];exact ⟨rfl,(HI.o.set 7 _ (nlb rfl)).drewN _,((At.aV.refl b w).set _ _).drewN _⟩
   ·have HP:=hhh (show Num.step ⟨neg,minus,true,zero,v,top,over,0⟩ x=(⟨neg,minus,true,zero,v,top,over,0⟩,false,0) by unfold Num.step;simp [hd,n45,n46,n101,n69])
    clear hdig hd n45 n46 n101 n69 hx HA hx1 hx2 hx3 hx4;rcases hr with hr | hr
    ·have h1:(x.toNat:Int) < 48:=by omega
     go_enter func158,ntmps158;go_wp2;go_quiet (fail);go_wp2;go_ret2;rw [HP.o];exact ⟨rfl,HI.o.drewN _,(At.aV.refl b w).drewN _⟩
    ·have h1:(48:Int) <= (x.toNat:Int):=by omega
     have h2:(57:Int) < (x.toNat:Int):=by omega
     go_enter func158,ntmps158;go_wp2;go_quiet (fail);go_wp2;go_ret2;rw [HP.o];exact ⟨rfl,HI.o.drewN _,(At.aV.refl b w).drewN _⟩
 ·have HP:=hhh (show Num.step ⟨neg,minus,digits,zero,v,top,over,er⟩ x=(⟨neg,minus,digits,zero,v,top,over,er⟩,false,er) by unfold Num.step;simp [he])
  have hne:((er:Int) != 0)=true:=by simp;omega
  have he8:=Hf.o.e;clear HA he;rcases (show x.toNat < 48 \/ (48 <= x.toNat /\ x.toNat <= 57) \/ 57 < x.toNat by omega) with hr | ⟨hr,hr2⟩ | hr
  ·have h1:(x.toNat:Int) < 48:=by omega
   go_enter func158,ntmps158;go_wp2;go_quiet (fail);go_wp2;go_ret2;rw [HP.o];exact ⟨rfl,HI.o.drewN _,(At.aV.refl b w).drewN _⟩
  ·have h1:(48:Int) <= (x.toNat:Int):=by omega
   have h2:(x.toNat:Int) <= 57:=by omega
   go_enter func158,ntmps158;go_wp2;go_quiet (fail);go_wp2;go_ret2;rw [HP.o];exact ⟨rfl,HI.o.drewN _,(At.aV.refl b w).drewN _⟩
  ·have h1:(48:Int) <= (x.toNat:Int):=by omega
   have h2:(57:Int) < (x.toNat:Int):=by omega
   go_enter func158,ntmps158;go_wp2;go_quiet (fail);go_wp2;go_ret2;rw [HP.o];exact ⟨rfl,HI.o.drewN _,(At.aV.refl b w).drewN _⟩
end
end Pip
end
end Go.Proofs.YtcjflgmcjfcodaaGreat
