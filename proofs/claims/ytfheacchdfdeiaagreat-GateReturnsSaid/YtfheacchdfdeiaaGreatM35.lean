/- Texts of the walk, joined. -/
import Derived.Test.YtfheacchdfdeiaaGreatM25
set_option maxRecDepth 100000
set_option maxHeartbeats 8000000
namespace Go.Proofs.YtfheacchdfdeiaaGreat
section
open Go.RowKit
open Json (Part)
namespace Pip
section
variable {p:Pin} {b:Nat} {h:Own.Heap} {w:World}
theorem pitem_203:iN p b h w 203 203 false:=by
 intro N D K O L HF HF0 HD HA HFu HV HLe HCo HLo HX HK HKh hltI HNl eA eB eX eW HDl HPh HNb;clear eA eB eX eW hltI HNl;obtain rfl:N=203:=by have:=HNb.out;omega
 simp only [Int.cast_ofNat_Int] at HX HK HLo |-;go_enter Tryz.func220,Tryz.ntmps220;go_wp2_with (fail);refine HD.out.mono ?_;rintro e w1 ⟨rfl,rfl⟩
 cases hd:p.c.done
 case true =>
  have HP:=hhh (HPh.out.trans (if_pos (.inl hd)));clear HPh hd;go_wp2_with (fail);refine bL (HF0.out 2) (fun t=>t) HP ?_;intro v w4 G;go_wp2;go_ret;exact G.out
 case false =>
  have HPd:=hhh (HPh.out.trans (if_neg (by rw [hd];first | (simp;done) | (have:=HNb.out;simp;omega))));clear HPh hd;go_wp2_with (fail);refine HA.out.mono ?_;rintro e w2 ⟨rfl,t2⟩;have T2:=hhh t2;clear t2
  cases hk:p.c.atKey
  ·have HPk:=hhh (HPd.o.trans (if_neg (by rw [hk];simp)))
   clear HPd hk HX;have HPl:=hhh (HPk.o.trans (if_neg (by first | (have:=HNb.out;omega) | trivial | (simp;done))));clear HPk;have HP:=hhh (HPl.o.trans (if_pos (by first | (have:=HNb.out;omega) | trivial | (simp;done))));clear HPl HNb;go_wp2_with (fail);refine bL (HF.out _ T2.o 6) (fun t=>T2.o.trans t) HP ?_;intro v w4 G;go_wp2;go_ret;exact G.out
  ·go_wp2_with (fail)
   refine (HX.out _).mono ?_;rintro e w3 ⟨rfl,rfl⟩;have HP:=hhh (HPd.o.trans (if_pos (by rw [hk];simp)));clear HPd hk HX;go_wp2_with (fail);refine bL (HF.out _ T2.o 8) (fun t=>T2.o.trans t) HP ?_;intro v w4 G;go_wp2;go_ret;exact G.out
theorem pitem_204:iN p b h w 204 211 false:=by
 intro N D K O L HF HF0 HD HA HFu HV HLe HCo HLo HX HK HKh hltI HNl eA eB eX eW HDl HPh HNb;have q0:((N:Int) == 193)=false:=by rw [beq_eq_false_iff_ne];have:=HNb.out;omega
 go_enter Tryz.func220,Tryz.ntmps220;go_wp2_with (fail);refine HD.out.mono ?_;rintro e w1 ⟨rfl,rfl⟩
 cases hd:p.c.done
 case true =>
  have HP:=hhh (HPh.out.trans (if_pos (.inl hd)));clear HPh hd;go_wp2_with (fail);refine bL (HF0.out 2) (fun t=>t) HP ?_;intro v w4 G;go_wp2;go_ret;exact G.out
 case false =>
  have HPd:=hhh (HPh.out.trans (if_neg (by rw [hd];first | (simp;done) | (have:=HNb.out;simp;omega))));clear HPh hd;go_wp2_with (fail);refine HA.out.mono ?_;rintro e w2 ⟨rfl,t2⟩;have T2:=hhh t2;clear t2
  cases hk:p.c.atKey
  ·have HPk:=hhh (HPd.o.trans (if_neg (by rw [hk];simp)))
   clear HPd hk HX;have a1:(199:Int) <= (N:Int):=by have:=HNb.out;omega
   have a2:¬ (N:Int) <= 201:=by have:=HNb.out;omega
   have a3:¬ (212:Int) <= (N:Int):=by have:=HNb.out;omega
   have a5:((N:Int) == 202)=false:=by rw [beq_eq_false_iff_ne];have:=HNb.out;omega
   have a6:((N:Int) == 203)=false:=by rw [beq_eq_false_iff_ne];have:=HNb.out;omega
   have a7:¬ (N:Int) < 128:=by have:=HNb.out;omega
   have a8:¬ (224:Int) <= (N:Int):=by have:=HNb.out;omega
   have a9:¬ (N:Int) < 160:=by have:=HNb.out;omega
   have b2:¬ (N:Int) < 192:=by have:=HNb.out;omega
   have b3:((N:Int) == 192)=false:=by rw [beq_eq_false_iff_ne];have:=HNb.out;omega
   have b4:¬ (N:Int) <= 195:=by have:=HNb.out;omega
   have b5:((N:Int) == 195)=false:=by rw [beq_eq_false_iff_ne];have:=HNb.out;omega
   have HPl:=hhh (HPk.o.trans (if_neg (by first | (have:=HNb.out;omega) | trivial | (simp;done))));clear HPk;have HPm:=hhh (HPl.o.trans (if_neg (by first | (have:=HNb.out;omega) | trivial | (simp;done))));clear HPl;have hK:K=false:=by rw [HKh.out];have:=HNb.out;first | (simp;done) | (simp;omega)
   rw [hK] at HK HPm;clear hK HKh;go_wp2_with (fail);refine (HK.out _).mono ?_;rintro e w3 ⟨rfl,rfl⟩;have HPn:=hhh (HPm.o.trans (if_neg (by simp)));clear HPm;have HC2:=hhh (HLo.out _ T2.o (by first | (have:=HNb.out;omega) | trivial | (simp;done)) (by first | (have:=HNb.out;omega) | trivial | (simp;done)) (by first | (have:=HNb.out;omega) | trivial | (simp;done)) (by first | (have:=HNb.out;omega) | trivial | (simp;done)));have HP:=hhh ((((((HPn.o.trans (if_neg (by first | (have:=HNb.out;omega) | trivial | (simp;done)))).trans (if_neg (by first | (have:=HNb.out;omega) | trivial | (simp;done)))).trans (if_neg (by first | (have:=HNb.out;omega) | trivial | (simp;done)))).trans (if_neg (by first | (have:=HNb.out;omega) | trivial | (simp;done)))).trans (if_neg (by first | (have:=HNb.out;omega) | trivial | (simp;done)))).trans (if_neg (by first | (have:=HNb.out;omega) | trivial | (simp;done))));clear HPn HNb;go_wp2_with (fail);refine pQ (HC2.o) (fun t=>T2.o.trans t) HP ?_;intro v w4 G;go_wp2;go_ret;exact G.out
  ·go_wp2_with (fail)
   refine (HX.out _).mono ?_;rintro e w3 ⟨rfl,rfl⟩;have HP:=hhh (HPd.o.trans (if_pos (by rw [hk];simp)));clear HPd hk HX;go_wp2_with (fail);refine bL (HF.out _ T2.o 8) (fun t=>T2.o.trans t) HP ?_;intro v w4 G;go_wp2;go_ret;exact G.out
theorem pitem_212:iN p b h w 212 216 false:=by
 intro N D K O L HF HF0 HD HA HFu HV HLe HCo HLo HX HK HKh hltI HNl eA eB eX eW HDl HPh HNb;have q0:((N:Int) == 193)=false:=by rw [beq_eq_false_iff_ne];have:=HNb.out;omega
 go_enter Tryz.func220,Tryz.ntmps220;go_wp2_with (fail);refine HD.out.mono ?_;rintro e w1 ⟨rfl,rfl⟩
 cases hd:p.c.done
 case true =>
  have HP:=hhh (HPh.out.trans (if_pos (.inl hd)));clear HPh hd;go_wp2_with (fail);refine bL (HF0.out 2) (fun t=>t) HP ?_;intro v w4 G;go_wp2;go_ret;exact G.out
 case false =>
  have HPd:=hhh (HPh.out.trans (if_neg (by rw [hd];first | (simp;done) | (have:=HNb.out;simp;omega))));clear HPh hd;go_wp2_with (fail);refine HA.out.mono ?_;rintro e w2 ⟨rfl,t2⟩;have T2:=hhh t2;clear t2
  cases hk:p.c.atKey
  ·have HPk:=hhh (HPd.o.trans (if_neg (by rw [hk];simp)))
   clear HPd hk HX;have a1:(199:Int) <= (N:Int):=by have:=HNb.out;omega
   have a2:¬ (N:Int) <= 201:=by have:=HNb.out;omega
   have a3:(212:Int) <= (N:Int):=by have:=HNb.out;omega
   have a4:(N:Int) <= 216:=by have:=HNb.out;omega
   have HP:=hhh (HPk.o.trans (if_pos (by first | (have:=HNb.out;omega) | trivial | (simp;done))));clear HPk HNb;go_wp2_with (fail);refine bL (HF.out _ T2.o 8) (fun t=>T2.o.trans t) HP ?_;intro v w4 G;go_wp2;go_ret;exact G.out
  ·go_wp2_with (fail)
   refine (HX.out _).mono ?_;rintro e w3 ⟨rfl,rfl⟩;have HP:=hhh (HPd.o.trans (if_pos (by rw [hk];simp)));clear HPd hk HX;go_wp2_with (fail);refine bL (HF.out _ T2.o 8) (fun t=>T2.o.trans t) HP ?_;intro v w4 G;go_wp2;go_ret;exact G.out
theorem pitem_217:iN p b h w 217 219 true:=by
 intro N D K O L HF HF0 HD HA HFu HV HLe HCo HLo HX HK HKh hltI HNl eA eB eX eW HDl HPh HNb;have q0:((N:Int) == 193)=false:=by rw [beq_eq_false_iff_ne];have:=HNb.out;omega
 go_enter Tryz.func220,Tryz.ntmps220;go_wp2_with (fail);refine HD.out.mono ?_;rintro e w1 ⟨rfl,rfl⟩
 cases hd:p.c.done
 case true =>
  have HP:=hhh (HPh.out.trans (if_pos (.inl hd)));clear HPh hd;go_wp2_with (fail);refine bL (HF0.out 2) (fun t=>t) HP ?_;intro v w4 G;go_wp2;go_ret;exact G.out
 case false =>
  have HPd:=hhh (HPh.out.trans (if_neg (by rw [hd];first | (simp;done) | (have:=HNb.out;simp;omega))));clear HPh hd;go_wp2_with (fail);refine HA.out.mono ?_;rintro e w2 ⟨rfl,t2⟩;have T2:=hhh t2;clear t2
  cases hk:p.c.atKey
  ·have HPk:=hhh (HPd.o.trans (if_neg (by rw [hk];simp)))
   clear HPd hk HX;have a1:(199:Int) <= (N:Int):=by have:=HNb.out;omega
   have a2:¬ (N:Int) <= 201:=by have:=HNb.out;omega
   have a3:(212:Int) <= (N:Int):=by have:=HNb.out;omega
   have a4:¬ (N:Int) <= 216:=by have:=HNb.out;omega
   have a5:((N:Int) == 202)=false:=by rw [beq_eq_false_iff_ne];have:=HNb.out;omega
   have a6:((N:Int) == 203)=false:=by rw [beq_eq_false_iff_ne];have:=HNb.out;omega
   have a7:¬ (N:Int) < 128:=by have:=HNb.out;omega
   have a8:¬ (224:Int) <= (N:Int):=by have:=HNb.out;omega
   have a9:¬ (N:Int) < 160:=by have:=HNb.out;omega
   have b2:¬ (N:Int) < 192:=by have:=HNb.out;omega
   have b3:((N:Int) == 192)=false:=by rw [beq_eq_false_iff_ne];have:=HNb.out;omega
   have b4:¬ (N:Int) <= 195:=by have:=HNb.out;omega
   have b5:((N:Int) == 195)=false:=by rw [beq_eq_false_iff_ne];have:=HNb.out;omega
   have HPl:=hhh (HPk.o.trans (if_neg (by first | (have:=HNb.out;omega) | trivial | (simp;done))));clear HPk;have HPm:=hhh (HPl.o.trans (if_neg (by first | (have:=HNb.out;omega) | trivial | (simp;done))));clear HPl;have hK:K=false:=by rw [HKh.out];have:=HNb.out;first | (simp;done) | (simp;omega)
   rw [hK] at HK HPm;clear hK HKh;go_wp2_with (fail);refine (HK.out _).mono ?_;rintro e w3 ⟨rfl,rfl⟩;have HPn:=hhh (HPm.o.trans (if_neg (by simp)));clear HPm;have HC2:=hhh (HLo.out _ T2.o (by first | (have:=HNb.out;omega) | trivial | (simp;done)) (by first | (have:=HNb.out;omega) | trivial | (simp;done)) (by first | (have:=HNb.out;omega) | trivial | (simp;done)) (by first | (have:=HNb.out;omega) | trivial | (simp;done)));have HP:=hhh ((((((HPn.o.trans (if_neg (by first | (have:=HNb.out;omega) | trivial | (simp;done)))).trans (if_neg (by first | (have:=HNb.out;omega) | trivial | (simp;done)))).trans (if_neg (by first | (have:=HNb.out;omega) | trivial | (simp;done)))).trans (if_neg (by first | (have:=HNb.out;omega) | trivial | (simp;done)))).trans (if_neg (by first | (have:=HNb.out;omega) | trivial | (simp;done)))).trans (if_neg (by first | (have:=HNb.out;omega) | trivial | (simp;done))));clear HPn HNb;go_wp2_with (fail);refine pQ (HC2.o) (fun t=>T2.o.trans t) HP ?_;intro v w4 G;go_wp2;go_ret;exact G.out
  ·go_wp2_with (fail)
   refine (HX.out _).mono ?_;rintro e w3 ⟨rfl,rfl⟩;have HPk:=hhh (HPd.o.trans (if_neg (by simp)));clear HPd hk HX;have a1:(199:Int) <= (N:Int):=by have:=HNb.out;omega
   have a2:¬ (N:Int) <= 201:=by have:=HNb.out;omega
   have a3:(212:Int) <= (N:Int):=by have:=HNb.out;omega
   have a4:¬ (N:Int) <= 216:=by have:=HNb.out;omega
   have a5:((N:Int) == 202)=false:=by rw [beq_eq_false_iff_ne];have:=HNb.out;omega
   have a6:((N:Int) == 203)=false:=by rw [beq_eq_false_iff_ne];have:=HNb.out;omega
   have a7:¬ (N:Int) < 128:=by have:=HNb.out;omega
   have a8:¬ (224:Int) <= (N:Int):=by have:=HNb.out;omega
   have a9:¬ (N:Int) < 160:=by have:=HNb.out;omega
   have b2:¬ (N:Int) < 192:=by have:=HNb.out;omega
   have b3:((N:Int) == 192)=false:=by rw [beq_eq_false_iff_ne];have:=HNb.out;omega
   have b4:¬ (N:Int) <= 195:=by have:=HNb.out;omega
   have b5:((N:Int) == 195)=false:=by rw [beq_eq_false_iff_ne];have:=HNb.out;omega
   have HPl:=hhh (HPk.o.trans (if_neg (by first | (have:=HNb.out;omega) | trivial | (simp;done))));clear HPk;have HPm:=hhh (HPl.o.trans (if_neg (by first | (have:=HNb.out;omega) | trivial | (simp;done))));clear HPl;have hK:K=false:=by rw [HKh.out];have:=HNb.out;first | (simp;done) | (simp;omega)
   rw [hK] at HK HPm;clear hK HKh;go_wp2_with (fail);refine (HK.out _).mono ?_;rintro e w3 ⟨rfl,rfl⟩;have HPn:=hhh (HPm.o.trans (if_neg (by simp)));clear HPm;have HC2:=hhh (HLo.out _ T2.o (by first | (have:=HNb.out;omega) | trivial | (simp;done)) (by first | (have:=HNb.out;omega) | trivial | (simp;done)) (by first | (have:=HNb.out;omega) | trivial | (simp;done)) (by first | (have:=HNb.out;omega) | trivial | (simp;done)));have HP:=hhh ((((((HPn.o.trans (if_neg (by first | (have:=HNb.out;omega) | trivial | (simp;done)))).trans (if_neg (by first | (have:=HNb.out;omega) | trivial | (simp;done)))).trans (if_neg (by first | (have:=HNb.out;omega) | trivial | (simp;done)))).trans (if_neg (by first | (have:=HNb.out;omega) | trivial | (simp;done)))).trans (if_neg (by first | (have:=HNb.out;omega) | trivial | (simp;done)))).trans (if_neg (by first | (have:=HNb.out;omega) | trivial | (simp;done))));clear HPn HNb;go_wp2_with (fail);refine pQ (HC2.o) (fun t=>T2.o.trans t) HP ?_;intro v w4 G;go_wp2;go_ret;exact G.out
theorem pitem_220:iN p b h w 220 223 false:=by
 intro N D K O L HF HF0 HD HA HFu HV HLe HCo HLo HX HK HKh hltI HNl eA eB eX eW HDl HPh HNb;have q0:((N:Int) == 193)=false:=by rw [beq_eq_false_iff_ne];have:=HNb.out;omega
 go_enter Tryz.func220,Tryz.ntmps220;go_wp2_with (fail);refine HD.out.mono ?_;rintro e w1 ⟨rfl,rfl⟩
 cases hd:p.c.done
 case true =>
  have HP:=hhh (HPh.out.trans (if_pos (.inl hd)));clear HPh hd;go_wp2_with (fail);refine bL (HF0.out 2) (fun t=>t) HP ?_;intro v w4 G;go_wp2;go_ret;exact G.out
 case false =>
  have HPd:=hhh (HPh.out.trans (if_neg (by rw [hd];first | (simp;done) | (have:=HNb.out;simp;omega))));clear HPh hd;go_wp2_with (fail);refine HA.out.mono ?_;rintro e w2 ⟨rfl,t2⟩;have T2:=hhh t2;clear t2
  cases hk:p.c.atKey
  ·have HPk:=hhh (HPd.o.trans (if_neg (by rw [hk];simp)))
   clear HPd hk HX;have a1:(199:Int) <= (N:Int):=by have:=HNb.out;omega
   have a2:¬ (N:Int) <= 201:=by have:=HNb.out;omega
   have a3:(212:Int) <= (N:Int):=by have:=HNb.out;omega
   have a4:¬ (N:Int) <= 216:=by have:=HNb.out;omega
   have a5:((N:Int) == 202)=false:=by rw [beq_eq_false_iff_ne];have:=HNb.out;omega
   have a6:((N:Int) == 203)=false:=by rw [beq_eq_false_iff_ne];have:=HNb.out;omega
   have a7:¬ (N:Int) < 128:=by have:=HNb.out;omega
   have a8:¬ (224:Int) <= (N:Int):=by have:=HNb.out;omega
   have a9:¬ (N:Int) < 160:=by have:=HNb.out;omega
   have b2:¬ (N:Int) < 192:=by have:=HNb.out;omega
   have b3:((N:Int) == 192)=false:=by rw [beq_eq_false_iff_ne];have:=HNb.out;omega
   have b4:¬ (N:Int) <= 195:=by have:=HNb.out;omega
   have b5:((N:Int) == 195)=false:=by rw [beq_eq_false_iff_ne];have:=HNb.out;omega
   have HPl:=hhh (HPk.o.trans (if_neg (by first | (have:=HNb.out;omega) | trivial | (simp;done))));clear HPk;have HPm:=hhh (HPl.o.trans (if_neg (by first | (have:=HNb.out;omega) | trivial | (simp;done))));clear HPl;have hK:K=true:=by rw [HKh.out];have:=HNb.out;first | (simp;done) | (simp;omega)
   rw [hK] at HK HPm;clear hK HKh;go_wp2_with (fail);refine (HK.out _).mono ?_;rintro e w3 ⟨rfl,rfl⟩;go_wp2_with (fail);refine (HFu.out _ T2.o).mono ?_;rintro e w5 ⟨rfl,t5⟩;have T5:=hhh (T2.o.trans t5);clear t5
   cases hu:p.c.full
   ·have HPn:=hhh (HPm.o.trans (if_neg (by rw [hu];simp)))
    clear HPm hu;have HC2:=hhh (HLo.out _ T5.o (by first | (have:=HNb.out;omega) | trivial | (simp;done)) (by first | (have:=HNb.out;omega) | trivial | (simp;done)) (by first | (have:=HNb.out;omega) | trivial | (simp;done)) (by first | (have:=HNb.out;omega) | trivial | (simp;done)));have HP:=hhh ((((((HPn.o.trans (if_neg (by first | (have:=HNb.out;omega) | trivial | (simp;done)))).trans (if_neg (by first | (have:=HNb.out;omega) | trivial | (simp;done)))).trans (if_neg (by first | (have:=HNb.out;omega) | trivial | (simp;done)))).trans (if_neg (by first | (have:=HNb.out;omega) | trivial | (simp;done)))).trans (if_neg (by first | (have:=HNb.out;omega) | trivial | (simp;done)))).trans (if_neg (by first | (have:=HNb.out;omega) | trivial | (simp;done))));clear HPn HNb;go_wp2_with (fail);refine pQ (HC2.o) (fun t=>T5.o.trans t) HP ?_;intro v w4 G;go_wp2;go_ret;exact G.out
   ·have HP:=hhh (HPm.o.trans (if_pos (by rw [hu];simp)))
    clear HPm hu HNb;go_wp2_with (fail);refine bL (HF.out _ T5.o 4) (fun t=>T5.o.trans t) HP ?_;intro v w4 G;go_wp2;go_ret;exact G.out
  ·go_wp2_with (fail)
   refine (HX.out _).mono ?_;rintro e w3 ⟨rfl,rfl⟩;have HP:=hhh (HPd.o.trans (if_pos (by rw [hk];simp)));clear HPd hk HX;go_wp2_with (fail);refine bL (HF.out _ T2.o 8) (fun t=>T2.o.trans t) HP ?_;intro v w4 G;go_wp2;go_ret;exact G.out
theorem pitem_224:iN p b h w 224 255 false:=by
 intro N D K O L HF HF0 HD HA HFu HV HLe HCo HLo HX HK HKh hltI HNl eA eB eX eW HDl HPh HNb;have q0:((N:Int) == 193)=false:=by rw [beq_eq_false_iff_ne];have:=HNb.out;omega
 go_enter Tryz.func220,Tryz.ntmps220;go_wp2_with (fail);refine HD.out.mono ?_;rintro e w1 ⟨rfl,rfl⟩
 cases hd:p.c.done
 case true =>
  have HP:=hhh (HPh.out.trans (if_pos (.inl hd)));clear HPh hd;go_wp2_with (fail);refine bL (HF0.out 2) (fun t=>t) HP ?_;intro v w4 G;go_wp2;go_ret;exact G.out
 case false =>
  have HPd:=hhh (HPh.out.trans (if_neg (by rw [hd];first | (simp;done) | (have:=HNb.out;simp;omega))));clear HPh hd;go_wp2_with (fail);refine HA.out.mono ?_;rintro e w2 ⟨rfl,t2⟩;have T2:=hhh t2;clear t2
  cases hk:p.c.atKey
  ·have HPk:=hhh (HPd.o.trans (if_neg (by rw [hk];simp)))
   clear HPd hk HX;have a1:(199:Int) <= (N:Int):=by have:=HNb.out;omega
   have a2:¬ (N:Int) <= 201:=by have:=HNb.out;omega
   have a3:(212:Int) <= (N:Int):=by have:=HNb.out;omega
   have a4:¬ (N:Int) <= 216:=by have:=HNb.out;omega
   have a5:((N:Int) == 202)=false:=by rw [beq_eq_false_iff_ne];have:=HNb.out;omega
   have a6:((N:Int) == 203)=false:=by rw [beq_eq_false_iff_ne];have:=HNb.out;omega
   have a7:¬ (N:Int) < 128:=by have:=HNb.out;omega
   have a8:(224:Int) <= (N:Int):=by have:=HNb.out;omega
   have HPl:=hhh (HPk.o.trans (if_neg (by first | (have:=HNb.out;omega) | trivial | (simp;done))));clear HPk;have HPm:=hhh (HPl.o.trans (if_neg (by first | (have:=HNb.out;omega) | trivial | (simp;done))));clear HPl;have hK:K=false:=by rw [HKh.out];have:=HNb.out;first | (simp;done) | (simp;omega)
   rw [hK] at HK HPm;clear hK HKh;go_wp2_with (fail);refine (HK.out _).mono ?_;rintro e w3 ⟨rfl,rfl⟩;have HPn:=hhh (HPm.o.trans (if_neg (by simp)));clear HPm;have HP:=hhh ((HPn.o.trans (if_neg (by first | (have:=HNb.out;omega) | trivial | (simp;done)))).trans (if_pos (by first | (have:=HNb.out;omega) | trivial | (simp;done))));clear HPn HNb;go_wp2_with (fail);refine bL (HV.out _ T2.o (.whole true D)) (fun t=>T2.o.trans t) HP ?_;intro v w4 G;go_wp2;go_ret;exact G.out
  ·go_wp2_with (fail)
   refine (HX.out _).mono ?_;rintro e w3 ⟨rfl,rfl⟩;have HP:=hhh (HPd.o.trans (if_pos (by rw [hk];simp)));clear HPd hk HX;go_wp2_with (fail);refine bL (HF.out _ T2.o 8) (fun t=>T2.o.trans t) HP ?_;intro v w4 G;go_wp2;go_ret;exact G.out
end
end Pip
end
section
open Go.RowKit
open Json (Part)
namespace Pip
section
variable {p:Pin} {b:Nat} {h:Own.Heap} {w:World}
theorem aBk {n : Nat} (hi : p.Is b h) (hw : Own.Has w h) (hf : p.Fits n) (hn : n ≤ 1000000) (x : UInt8) :
  Calls Tryz.prog 220 #[.pointer (some ⟨b,0,none⟩),.int .u8 (x.toNat:Int)] w (bD (p.item x) b h w):=by
 have hlt:=UInt8.toNat_lt x;by_cases g0:x.toNat <= 127
 ·exact cD hi hw hf hn x (by omega) g0 (by unfold cN;simp;omega) pitem_0
 by_cases g128:x.toNat <= 143
 ·exact cD hi hw hf hn x (by omega) g128 (by unfold cN;simp;omega) pitem_128
 by_cases g144:x.toNat <= 159
 ·exact cD hi hw hf hn x (by omega) g144 (by unfold cN;simp;omega) pitem_144
 by_cases g160:x.toNat <= 191
 ·exact cD hi hw hf hn x (by omega) g160 (by unfold cN;simp;omega) pitem_160
 by_cases g192:x.toNat <= 192
 ·exact cD hi hw hf hn x (by omega) g192 (by unfold cN;simp;omega) pitem_192
 by_cases g193:x.toNat <= 193
 ·exact cD hi hw hf hn x (by omega) g193 (by unfold cN;simp;omega) pitem_193
 by_cases g194:x.toNat <= 194
 ·exact cD hi hw hf hn x (by omega) g194 (by unfold cN;simp;omega) pitem_194
 by_cases g195:x.toNat <= 195
 ·exact cD hi hw hf hn x (by omega) g195 (by unfold cN;simp;omega) pitem_195
 by_cases g196:x.toNat <= 198
 ·exact cD hi hw hf hn x (by omega) g196 (by unfold cN;simp;omega) pitem_196
 by_cases g199:x.toNat <= 201
 ·exact cD hi hw hf hn x (by omega) g199 (by unfold cN;simp;omega) pitem_199
 by_cases g202:x.toNat <= 202
 ·exact cD hi hw hf hn x (by omega) g202 (by unfold cN;simp;omega) pitem_202
 by_cases g203:x.toNat <= 203
 ·exact cD hi hw hf hn x (by omega) g203 (by unfold cN;simp;omega) pitem_203
 by_cases g204:x.toNat <= 211
 ·exact cD hi hw hf hn x (by omega) g204 (by unfold cN;simp;omega) pitem_204
 by_cases g212:x.toNat <= 216
 ·exact cD hi hw hf hn x (by omega) g212 (by unfold cN;simp;omega) pitem_212
 by_cases g217:x.toNat <= 219
 ·exact cD hi hw hf hn x (by omega) g217 (by unfold cN;simp;omega) pitem_217
 by_cases g220:x.toNat <= 223
 ·exact cD hi hw hf hn x (by omega) g220 (by unfold cN;simp;omega) pitem_220
 exact cD hi hw hf hn x (by omega) (by omega) (by unfold cN;simp;omega) pitem_224
end
end Pip
end
end Go.Proofs.YtfheacchdfdeiaaGreat
