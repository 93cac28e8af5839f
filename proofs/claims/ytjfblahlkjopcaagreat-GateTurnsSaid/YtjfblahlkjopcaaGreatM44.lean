/- Texts of the walk, joined. -/
import Derived.Test.YtjfblahlkjopcaaGreatM40
import Derived.Test.YtjfblahlkjopcaaGreatM41
import Derived.Test.YtjfblahlkjopcaaGreatM42
import Derived.Test.YtjfblahlkjopcaaGreatM43
import Derived.KernelRfl
set_option maxRecDepth 100000
set_option maxHeartbeats 8000000
namespace Go.Proofs.YtjfblahlkjopcaaGreat
section
namespace Ses
open Pip
open Json (Part)
def Told (s:St):Prop:=s.told=true -> right s.setup=true
theorem told_once (text:Part -> List UInt8) {s:St} (h:Told s):Told (s.once text):=by
 unfold St.once;split
 ·exact h
 ·exact h
 ·unfold St.byte
  simp only;split
  ·exact h
  ·exact h
 ·unfold St.greet
  simp only;split
  ·exact h
  ·rename_i l hi ht _
   split
   ·rename_i h0
    intro _;exact (get_good _ h0).2.1
   ·exact h
 ·exact h
theorem told_paid (text:Part -> List UInt8) (may:Option (Int -> Bool)) {s:St} (h:Told s):Told (s.paid text may):=by
 unfold St.paid;split
 ·exact told_once text h
 ·exact told_once text h
theorem told_run (text:Part -> List UInt8) (may:Option (Int -> Bool)):∀ (k:Nat) (s:St),Told s -> Told (s.run text may k).1
 | 0,_,h=>h
 | k + 1,s,h=>by
  unfold St.run
  split
  ·exact told_run text may k _ (told_paid text may h)
  ·exact h
theorem paid_fits (text:Part -> List UInt8) (f:Int -> Bool) (hf:∀ a b:Nat,a <= b -> f (b:Int)=true -> f (a:Int)=true) (s:St) (hr:s.ready=true) (h:f (s.charge:Int)=true):f ((s.paid text (some f)).charge:Int)=true:=by
 cases hx:f ((s.once text).charge:Int) with
 | true=>rw [paid_yes text _ s hx];exact hx
 | false =>
  rw [paid_no text _ s hx,charge_stop];refine hf _ _ ?_ h;rw [charge_on (ready_on hr)];have:(List.take s.out.length (s.once text).out).length <= s.out.length:=by rw [List.length_take];omega
  simp only at *
  omega
theorem run_fits (text:Part -> List UInt8) (f:Int -> Bool) (hf:∀ a b:Nat,a <= b -> f (b:Int)=true -> f (a:Int)=true):∀ (k:Nat) (s:St),f (s.charge:Int)=true -> f ((s.run text (some f) k).1.charge:Int)=true
 | 0,_,h=>h
 | k + 1,s,h=>by
  unfold St.run
  split
  ·rename_i hr
   exact run_fits text f hf k _ (paid_fits text f hf s hr h)
  ·exact h
def calm (text:Part -> List UInt8) (M:Nat):Nat -> St -> Bool
 | 0,_=>true
 | k + 1,s=>if s.ready=true then decide ((s.once text).charge <= M) && calm text M k (s.once text) else true
theorem run_calm (text:Part -> List UInt8) (M:Nat) (f:Int -> Bool) (hf:∀ z:Nat,z <= M -> f (z:Int)=true):∀ (k:Nat) (s:St),calm text M k s=true -> s.run text (some f) k=s.run text none k
 | 0,_,_=>rfl
 | k + 1,s,h=>by
  unfold calm at h
  unfold St.run
  split
  ·rename_i hr
   rw [if_pos hr] at h
   simp only [Bool.and_eq_true,decide_eq_true_eq] at h
   have e1:s.paid text (some f)=s.once text:=paid_yes text f s (hf _ h.1)
   have e2:s.paid text none=s.once text:=by unfold St.paid refused;rfl
   rw [e1,e2,run_calm text M f hf k _ h.2]
  ·rfl
def rset:Setup:=⟨1,1,1,0,0⟩
def blanks:List UInt8:=helloBytes rset ++ List.replicate 56 32
def rst (text:Part -> List UInt8) (b:List UInt8):Nat -> St
 | 0=>fresh b
 | r + 1=>((rst text b r).run text none 16).1
def rok (text:Part -> List UInt8) (b:List UInt8) (n r:Nat):Bool :=
 calm text 700 16 (rst text b r) && ((rst text b r).run text none 16).2 == min 16 (n - 16 * r) && (rst text b r).ready == decide (16 * r < n) && decide ((rst text b r).charge <= 700)
theorem rok_all (g:Part -> List UInt8):((List.range 65).all fun n=>(List.range 6).all fun r=>rok g (blanks.take n) n r)=true:=by kernel_rfl
structure Rok (text:Part -> List UInt8) (b:List UInt8) (n r:Nat):Prop where
 calm:calm text 700 16 (rst text b r)=true
 many:((rst text b r).run text none 16).2=min 16 (n - 16 * r)
 ready:(rst text b r).ready=decide (16 * r < n)
 charge:(rst text b r).charge <= 700
theorem rok_of {text:Part -> List UInt8} {b:List UInt8} {n r:Nat} (h:rok text b n r=true):Rok text b n r:=by
 unfold rok at h;simp only [Bool.and_eq_true,decide_eq_true_eq,beq_iff_eq] at h;exact ⟨h.1.1.1,h.1.1.2,h.1.2,h.2⟩
theorem rok_at (text:Part -> List UInt8) (n r:Nat) (hn:n <= 64) (hr:r <= 5):Rok text (blanks.take n) n r:=by
 have:=rok_all text;simp only [List.all_eq_true,List.mem_range] at this;exact rok_of (this n (by omega) r (by omega))
def tset:Setup:=⟨1,1,9,0,0⟩
def opens:List UInt8:=(helloBytes tset ++ (List.replicate 12 32 ++ (91 :: List.replicate 45 32))).take 64
theorem tok_all (g:Part -> List UInt8):((List.range 6).all fun r=>rok g opens 64 r)=true:=by kernel_rfl
theorem tok_at (text:Part -> List UInt8) (r:Nat) (hr:r <= 5):Rok text opens 64 r:=by
 have:=tok_all text;simp only [List.all_eq_true,List.mem_range] at this;exact rok_of (this r (by omega))
end Ses
end
section
namespace Gr
def upd (r:Nat -> Nat) (i x:Nat):Nat -> Nat:=fun j=>if j=i then x else r j
theorem upd_self (r:Nat -> Nat) (i x:Nat):upd r i x i=x:=if_pos rfl
theorem upd_other (r:Nat -> Nat) (i x j:Nat) (h:j ≠ i):upd r i x j=r j:=if_neg h
def tot (f:Nat -> Nat) (r:Nat -> Nat):Nat -> Nat
 | 0=>0
 | n + 1=>tot f r n + f (r n)
theorem tot_out (f:Nat -> Nat) (r:Nat -> Nat) (i x:Nat):∀ n,n <= i -> tot f (upd r i x) n=tot f r n
 | 0,_=>rfl
 | n + 1,h=>by
  show tot f (upd r i x) n + f (upd r i x n)=tot f r n + f (r n)
  rw [tot_out f r i x n (by omega),upd_other r i x n (by omega)]
theorem tot_upd (f:Nat -> Nat) (r:Nat -> Nat) (i x:Nat):∀ n,i < n -> tot f (upd r i x) n + f (r i)=tot f r n + f x
 | 0,h=>by omega
 | n + 1,h=>by
  show tot f (upd r i x) n + f (upd r i x n) + f (r i)=tot f r n + f (r n) + f x
  by_cases hn:n=i
  ·subst hn
   rw [tot_out f r n x n (Nat.le_refl _),upd_self]
   omega
  ·rw [upd_other r i x n hn]
   have:=tot_upd f r i x n (by omega)
   omega
theorem tot_same (f:Nat -> Nat) (r:Nat -> Nat) (c:Nat):∀ n,(∀ j,j < n -> f (r j)=c) -> tot f r n=n * c
 | 0,_=>by simp [tot]
 | n + 1,h=>by
  show tot f r n + f (r n)=_
  rw [tot_same f r c n (fun j hj=>h j (by omega)),h n (by omega),Nat.succ_mul]
theorem tot_le (f:Nat -> Nat) (r:Nat -> Nat) (c:Nat):∀ n,(∀ j,j < n -> f (r j) <= c) -> tot f r n <= n * c
 | 0,_=>by simp [tot]
 | n + 1,h=>by
  show tot f r n + f (r n) <= _
  have h1:=tot_le f r c n (fun j hj=>h j (by omega))
  have h2:=h n (by omega)
  rw [Nat.succ_mul]
  omega
def had (n t:Nat) (j:Nat):Nat:=if j < t % n then t / n + 1 else t / n
theorem step_mod (n t:Nat) (hn:0 < n):(t % n + 1 < n /\ (t + 1) % n=t % n + 1 /\ (t + 1) / n=t / n) \/ (t % n + 1=n /\ (t + 1) % n=0 /\ (t + 1) / n=t / n + 1):=by
 have h1:=Nat.div_add_mod t n;have h2:=Nat.mod_lt t hn;rcases Nat.lt_or_ge (t % n + 1) n with h | h
 ·refine .inl ⟨h,?_,?_⟩
  ·rw [<- h1,Nat.add_assoc,Nat.mul_add_mod,Nat.mod_eq_of_lt h,Nat.mul_add_mod,Nat.mod_eq_of_lt h2]
  ·rw [<- h1,Nat.add_assoc,Nat.mul_add_div hn,Nat.div_eq_of_lt h,Nat.mul_add_div hn,Nat.div_eq_of_lt h2]
 ·have h3:t % n + 1=n:=by omega
  refine .inr ⟨h3,?_,?_⟩
  ·rw [<- h1,Nat.add_assoc,h3,Nat.mul_add_mod,Nat.mod_self]
  ·have h4:(n * (t / n) + t % n) / n=t / n:=by rw [h1]
   have h5:(n * (t / n) + (t % n + 1)) / n=t / n + 1:=by rw [h3,Nat.mul_add_div hn,Nat.div_self hn]
   rw [show t + 1=n * (t / n) + (t % n + 1) by omega,h5]
theorem had_self (n t:Nat):had n t (t % n)=t / n:=if_neg (Nat.lt_irrefl _)
theorem had_step (n t:Nat) (hn:0 < n) (j:Nat) (hj:j < n):had n (t + 1) j=upd (had n t) (t % n) (t / n + 1) j:=by
 unfold upd had;rcases step_mod n t hn with ⟨h1,h2,h3⟩ | ⟨h1,h2,h3⟩
 ·rw [h2,h3]
  by_cases hj2:j=t % n
  ·rw [if_pos hj2,if_pos (by omega)]
  ·rw [if_neg hj2]
   by_cases hj3:j < t % n
   ·rw [if_pos hj3,if_pos (by omega)]
   ·rw [if_neg hj3,if_neg (by omega)]
 ·rw [h2,h3,if_neg (Nat.not_lt_zero _)]
  by_cases hj2:j=t % n
  ·rw [if_pos hj2]
  ·rw [if_neg hj2,if_pos (by omega)]
def Row (n t:Nat) (l:List Nat):Prop:=l.length=n /\ ∀ j,j < n -> l[j]? = some ((t + j) % n)
theorem row_next {n t:Nat} {l:List Nat} (h:Row n t l) (hn:0 < n):∃ tl,l=t % n :: tl /\ Row n (t + 1) (tl ++ [t % n]):=by
 match l,h with
 | [],h=>have:=h.1;simp at this;omega
 | x :: tl,h =>
  have h0:=h.2 0 hn;simp only [List.getElem?_cons_zero,Option.some.injEq,Nat.add_zero] at h0;subst h0;have hl:tl.length + 1=n:=h.1;refine ⟨tl,rfl,by rw [List.length_append];exact hl,fun j hj=>?_⟩;by_cases hj2:j < tl.length
  ·rw [List.getElem?_append_left hj2]
   have:=h.2 (j + 1) (by omega);rw [List.getElem?_cons_succ] at this;rw [this,show t + (j + 1)=t + 1 + j by omega]
  ·rw [List.getElem?_append_right (by omega),show j - tl.length=0 by omega]
   simp only [List.getElem?_cons_zero,Option.some.injEq];rw [show t + 1 + j=t + n by omega,Nat.add_mod_right]
end Gr
end
section
open Go.RowKit
namespace Gate
open Purse (bools)
def Ga.readyAt (g:Ga) (i:Nat):Bool :=
 match g.slots[i]? with
 | some (some s)=>s.ready
 | _=>false
def Ga.readys (g:Ga) (j:Nat):List Bool:=(List.range j).map g.readyAt
def Ga.next (g:Ga):Option Nat:=g.turns.find? g.readyAt
theorem readys_length (g:Ga) (j:Nat):(g.readys j).length=j:=by simp [Ga.readys]
theorem readys_succ (g:Ga) (j:Nat):g.readys (j + 1)=g.readys j ++ [g.readyAt j]:=by simp [Ga.readys,List.range_succ]
theorem readys_getD (g:Ga) (hl:g.slots.length=g.n):(fun y=>(g.readys g.n).getD y false)=g.readyAt:=by
 funext y;by_cases h:y < g.n
 ·simp [Ga.readys,List.getD_eq_getElem?_getD,h]
 ·rw [List.getD_eq_getElem?_getD,List.getElem?_eq_none (by rw [readys_length];omega)]
  unfold Ga.readyAt;rw [List.getElem?_eq_none (by rw [hl];omega)];rfl
theorem ready_nil (w:World):Calls Tryz.prog 38 #[.pointer none] w fun e w'=>e = .returned (.bool false) /\ w'=w:=by
 go_enter Tryz.func38,Tryz.ntmps38;go_wp2;go_ret;exact ⟨rfl,rfl⟩
def BG (b gb:Nat):Nat × Obj:=Own.row b 23 [.pointer (some ⟨gb,0,none⟩)]
def BS (b i:Nat):Nat × Obj:=Own.row b 3 [.int .i64 (i:Int)]
def cl (bg bs:Nat) (l:Lay) (g:Ga) (i:Nat) (p:Purse.St):Own.Heap:=BG bg l.gb :: BS bs i :: l.row g :: Purse.heap p l.pb l.hb l.ob
theorem may_any (bg bs : Nat) (l : Lay) (g : Ga) (i : Nat) (p : Purse.St) (f : p.Fits) (W : World) (z : Nat) (hW : Own.Has W (cl bg bs l g i p)) (hi : i < p.has.length) (ho : p.opn[i]'(f.same ▸ hi) = true) (hz : z ≤ 1000000000000) :
  Calls Tryz.prog 42 #[.int .i64 (z:Int),.pointer (some ⟨bg,0,none⟩),.pointer (some ⟨bs,0,none⟩)] W fun e w'=>e = .returned (.bool (p.lets i z)) /\ Own.Turn (cl bg bs l g i p) (cl bg bs l g i (p.set i z)) W w':=by
 have c0:=hW.cell bg 23 _ mcs 0 _ rfl;have c1:=hW.cell bs 3 [.int .i64 (i:Int)] (mcm _ mcs) 0 _ rfl;have c2:W.cell? ⟨l.gb,3,none⟩=some (.pointer (some ⟨l.pb,0,none⟩)):=hW.cell l.gb 60 _ (mcm _ (mcm _ mcs)) 3 _ rfl;have hP:Own.Has W (Purse.heap p l.pb l.hb l.ob):=Own.Has.right (a:=[_,_,_]) hW;have HS:=hhh (fun m=>Purse.set_full (hP.drewN m) f i z hi hz ho);have HW:=hhh hW;obtain ⟨Z,hZ⟩:∃ Z:Int,Z=(z:Int):=⟨_,rfl⟩;rw [<- hZ] at HS |-;clear hW hP hZ hz ho;go_enter Tryz.func42,Tryz.ntmps42;go_wp2;go_region_with (refine (HS.o _).mono ?_;rintro e W1 ⟨rfl,ht⟩)
 all_goals go_wp2
 all_goals go_ret
 all_goals exact ⟨rfl,((Own.Turn.refl HW.o).drewN _).trans (Own.Turn.behind (r:=[_,_,_]) ht (HW.o.drewN _))⟩
theorem put_back (p:Purse.St) (i:Nat) (hi:i < p.has.length):p.put i (p.has[i]'hi)=p:=by
 unfold Purse.St.put;rw [List.set_getElem_self]
def Way (bg bs:Nat) (l:Lay) (g:Ga) (i:Nat) (d:Own.Heap):Prop:=∃ v,d=cl bg bs l g i (g.pu.put i v) /\ (g.pu.put i v).Fits /\ ∀ z,(g.pu.put i v).lets i z=g.pu.lets i z
theorem put_put (p:Purse.St) (i v x:Nat):(p.put i v).put i x=p.put i x:=by
 unfold Purse.St.put;simp only [List.set_set]
theorem way_on (bg bs : Nat) (l : Lay) (g : Ga) (i : Nat) (hi : i < g.pu.has.length) (hs : g.pu.has.length = g.pu.opn.length) (ho : g.pu.opn[i]'(hs ▸ hi) = true) (W : World) (z : Nat) (d : Own.Heap) (hd : Way bg bs l g i d) (hW : Own.Has W d) (hz : z ≤ 1000000000000) :
  Calls Tryz.prog 42 #[.int .i64 (z:Int),.pointer (some ⟨bg,0,none⟩),.pointer (some ⟨bs,0,none⟩)] W fun e w'=>e = .returned (.bool (g.pu.lets i z)) /\ ∃ d',Way bg bs l g i d' /\ Own.Turn d d' W w':=by
 obtain ⟨v,rfl,f,hl⟩:=hd;have hi2:i < (g.pu.put i v).has.length:=by show i < (g.pu.has.set i v).length;rw [List.length_set];exact hi
 refine (may_any bg bs l g i (g.pu.put i v) f W z hW hi2 ho hz).mono ?_;rintro e w' ⟨rfl,t⟩;refine ⟨by rw [hl],_,?_,t⟩
 cases hb:(g.pu.put i v).lets i z with
 | true =>
  have e1:(g.pu.put i v).set i z=g.pu.put i z:=by unfold Purse.St.set;rw [if_pos hb,put_put]
  rw [e1];have e2:=Purse.lets_put (g.pu.put i v) f i z;rw [put_put] at e2;refine ⟨z,rfl,?_,fun y=>by rw [e2 y hi2 hb,hl]⟩;have:=f.put i z hi2 (by unfold Purse.St.lets at hb;simpa using hb)
  rwa [put_put] at this
 | false =>
  have e1:(g.pu.put i v).set i z=g.pu.put i v:=by unfold Purse.St.set;rw [if_neg (by rw [hb];decide)]
  rw [e1];exact ⟨v,rfl,f,hl⟩
theorem lets_down (p:Purse.St) (i a b:Nat) (h:a <= b) (hb:p.lets i b=true):p.lets i a=true:=by
 unfold Purse.St.lets at *
 simp only [decide_eq_true_eq] at *
 have:Purse.over a <= Purse.over b:=by unfold Purse.over;omega
 omega
theorem lets_own (p:Purse.St) (i:Nat):p.lets i (p.has.getD i 0)=true:=by
 unfold Purse.St.lets;simp only [decide_eq_true_eq];omega
theorem lets_few (p:Purse.St) (i z:Nat) (h:z <= 700):p.lets i z=true:=by
 unfold Purse.St.lets Purse.over;simp only [decide_eq_true_eq];omega
section
variable {l:Lay} {g:Ga}
theorem perm_next (l:Lay) (g:Ga) (ho:Own.Heap) (x:Nat × Obj):(ho ++ (x :: l.heap g)).Perm ((l.hw ++ ho) ++ (x :: l.row g :: l.srow :: l.irow g :: (l.purse g ++ (l.ht ++ l.hs)))):=by
 refine Own.perm_of_count _ _ fun y=>?_
 unfold Lay.heap;simp only [List.count_append,List.count_cons];omega
theorem perm_run (l:Lay) (g:Ga) (bg bs i:Nat) (h1 h0 h2:Own.Heap) (e:l.hs=h1 ++ (h0 ++ h2)):(BS bs i :: BG bg l.gb :: l.heap g).Perm ((h0 ++ cl bg bs l g i g.pu) ++ (l.srow :: l.irow g :: (l.hw ++ (l.ht ++ (h1 ++ h2))))):=by
 refine Own.perm_of_count _ _ fun y=>?_
 unfold Lay.heap cl Lay.purse;rw [e];simp only [List.count_append,List.count_cons];omega
end
end Gate
end
section
open Go.RowKit
namespace Gate
open Purse (bools ints)
theorem Ga.Ok.mono {T:Esc.Tabs} {N M:Nat} {g:Ga} (o:g.Ok T N) (h:N <= M) (hM:M <= 2600):g.Ok T M :=
 ⟨o.pos,o.len,o.timed,o.untimed,o.once,o.has,o.opn,fun s hs=>(o.sess s hs).mono h,o.ids,o.turns,o.turnsOnce,o.turnsLive,o.few,o.many,hM⟩
theorem Ga.Ok.turned {T:Esc.Tabs} {N:Nat} {g:Ga} (o:g.Ok T N) (i:Nat) (s:Se) (hs:g.slots[i]? = some (some s)):({ g with turns:=g.turns.erase i ++ [i] }:Ga).Ok T N where
 pos:=o.pos
 len:=o.len
 timed:=o.timed
 untimed:=o.untimed
 once:=o.once
 has:=o.has
 opn:=o.opn
 sess:=o.sess
 ids:=o.ids
 turns:=by
  intro j hj;show j ∉ g.turns.erase i ++ [i];rw [List.mem_append];rintro (h1 | h1)
  ·exact o.turns j hj (List.mem_of_mem_erase h1)
  ·simp at h1
   subst h1;rw [hs] at hj
   cases hj
 turnsOnce:=by
  show (g.turns.erase i ++ [i]).Nodup;refine List.nodup_append.2 ⟨o.turnsOnce.erase i,by simp,fun x hx y hy e=>?_⟩;simp at hy;subst hy;subst e;exact o.turnsOnce.not_mem_erase hx
 turnsLive:=by
  intro j u hj;show j ∈ g.turns.erase i ++ [i];rw [List.mem_append];by_cases hij:j=i
  ·exact .inr (by simp [hij])
  ·exact .inl ((List.mem_erase_of_ne hij).2 (o.turnsLive j u hj))
 few:=by
  show (g.turns.erase i ++ [i]).length <= 500;rw [List.length_append,List.length_erase_of_mem (o.turnsLive i s hs)];have:=o.few;simp only [List.length_singleton];omega
 many:=o.many
 cap:=o.cap
theorem way_start (bg bs:Nat) (l:Lay) (g:Ga) (i:Nat) (hi:i < g.pu.has.length) (f:g.pu.Fits):Way bg bs l g i (cl bg bs l g i g.pu) :=
 ⟨g.pu.has[i]'hi,by rw [put_back g.pu i hi],by rw [put_back g.pu i hi];exact f,fun z=>by rw [put_back g.pu i hi]⟩
section
variable {T:Esc.Tabs} {N:Nat} {l:Lay} {g:Ga} {w:World}
theorem run_idle (k : l.Good g) (o : g.Ok T N) (h : Own.Has w (l.heap g)) (hnext : g.next = none) :
  Calls Tryz.prog 13 #[.pointer (some ⟨l.gb,0,none⟩)] w fun e w'=>e = .returned (.tuple #[.int .i64 (-1),.int .i64 0]) /\ Own.Turn (l.heap g) (l.heap g) w w':=by
 have h8:=k.small;have TB:=hhh (show Own.Turn (l.heap g) (BG w.heap.size l.gb :: l.heap g) w (w.alloc (.cells #[.pointer (some ⟨l.gb,0,none⟩)] 23)) from (Own.Turn.refl h).allocRow w.heap.size rfl 23 [.pointer (some ⟨l.gb,0,none⟩)]);have c0:∀ o,(w.alloc o).cell? ⟨l.gb,0,none⟩=some (.slice (some ⟨l.sb,0,none⟩) g.n g.n):=fun x=>cell (((Own.Turn.refl h).litter x).has) 0 _ rfl
 obtain ⟨i0,hi,hz0,hz1,hz2⟩:=info_parts (P:=Tryz.prog) (e:=4) (z:=.bool false) (size:=1) (bytes:=1) (by kernel_rfl);have Hi:=hhh (And.intro hi (And.intro hz0 (And.intro hz1 hz2)));have HH:=hhh h;have K:=hhh k;have OO:=hhh o;have HNx:=hhh hnext;skip;clear hi hz0 hz1 hz2 k o h hnext;go_enter Tryz.func13,Tryz.ntmps13;go_wp2;go_loopw [4,22] (fun q x wr=>∃ (j m:Nat) (ad:Option Addr) (c:Nat) (ho:Own.Heap),q = .slice ad m c /\ x = .int .i64 j /\ j <= g.n /\ m=j /\ Own.Slc 4 (bools (g.readys j)) (.slice ad m c) ho /\ Own.Turn (l.heap g) (ho ++ (BG w.heap.size l.gb :: l.heap g)) w wr) (fun _ x _=>g.n - (intOf x).toNat)
 case atStart=>exact ⟨0,0,none,0,[],rfl,rfl,by omega,rfl,Own.Slc.bare none rfl,TB.o⟩
 case round =>
  obtain ⟨j,m,ad,c,ho,rfl,rfl,hj,hm,hs,ht⟩:=hrel;subst hm;have HSl:=hhh hs;have HT:=hhh ht;have hG:Own.Has wr (l.heap g):=(ht.has.right).right (a:=[_]);clear hs;by_cases hjn:m < g.n
  ·have hjv:m < l.vs.length:=by rw [K.o.vlen];exact hjn
   have hjs:m < g.slots.length:=by rw [K.o.len];exact hjn
   have hI:(m:Int) < (g.n:Int):=by omega
   have cs:=cellS hG m _ (List.getElem?_eq_getElem hjv);have hm8:m <= 8:=by omega
   have HG:=hhh hG;have hlen:=hhh (show (bools (g.readys m)).length=m by rw [Wheel.length_bools,readys_length])
   cases hs:g.slots[m]'hjs with
   | none =>
    have hs':g.slots[m]? = some none:=by rw [List.getElem?_eq_getElem hjs,hs]
    obtain ⟨hv,_⟩:=K.o.slots.none_at m hs';rw [List.getElem?_eq_getElem hjv] at hv;rw [Option.some.inj hv] at cs;have HL:=hhh (show g.readys (m + 1)=g.readys m ++ [false] by rw [readys_succ];unfold Ga.readyAt;rw [hs']);clear hs hs' hv hG ht;go_wp2_with (fail);refine (ready_nil wr).mono ?_;rintro e W1 ⟨rfl,rfl⟩;go_wp2_with (at_builtin;go_loud (refine Own.wpList_append_one rfl _ _ 72 rfl 4 i0 (.bool false) 1 Tryz.underlying72 Hi.o.1 Hi.o.2.1 Hi.o.2.2.1 Hi.o.2.2.2 rfl (.slice ad m c) (bools (g.readys m)) m hlen.o ho (BG w.heap.size l.gb :: l.heap g) rfl HSl.o HT.o.has (.bool false) rfl rfl ?c1 ?c2 ?_))
    case c1=>simp only [maxLen];omega
    case c2=>omega
    intro ad' c' h' w1 hs' ht';go_wp2;go_roundw
    case rel =>
     refine ⟨m + 1,m + 1,ad',c',h',rfl,by go_num,by omega,rfl,?_,HT.o.trans ht'⟩;rw [HL.o,show bools (g.readys m ++ [false])=bools (g.readys m) ++ [.bool false] by simp [bools]];exact hs'
    case measure=>simp [intOf];omega
   | some s =>
    have hs':g.slots[m]? = some (some s):=by rw [List.getElem?_eq_getElem hjs,hs]
    obtain ⟨b,k1,k0,k2,hv,e2,e3,_,_⟩:=K.o.slots.some_at m s hs';rw [List.getElem?_eq_getElem hjv] at hv;rw [Option.some.inj hv] at cs;have HRd:=hhh (Ses.ready_any e3 (sess hG k1 k0 k2 e2));obtain ⟨RB,hRB⟩:∃ RB,RB=s.ready:=⟨_,rfl⟩;have HL:=hhh (show g.readys (m + 1)=g.readys m ++ [RB] by rw [readys_succ];unfold Ga.readyAt;rw [hs',hRB]);rw [<- hRB] at HRd;clear hs hs' hv hG ht hRB e2 e3;go_wp2_with (fail);refine HRd.o.mono ?_;rintro e W1 ⟨rfl,rfl⟩;go_wp2_with (at_builtin;go_loud (refine Own.wpList_append_one rfl _ _ 72 rfl 4 i0 (.bool false) 1 Tryz.underlying72 Hi.o.1 Hi.o.2.1 Hi.o.2.2.1 Hi.o.2.2.2 rfl (.slice ad m c) (bools (g.readys m)) m hlen.o ho (BG w.heap.size l.gb :: l.heap g) rfl HSl.o HT.o.has (.bool RB) rfl rfl ?c1 ?c2 ?_))
    case c1=>simp only [maxLen];omega
    case c2=>omega
    intro ad' c' h' w1 hs' ht';go_wp2;go_roundw
    case rel =>
     refine ⟨m + 1,m + 1,ad',c',h',rfl,by go_num,by omega,rfl,?_,HT.o.trans ht'⟩;rw [HL.o,show bools (g.readys m ++ [RB])=bools (g.readys m) ++ [.bool RB] by simp [bools]];exact hs'
    case measure=>simp [intOf];omega
  ·obtain rfl:m=g.n:=by omega
   have hcb:wr.cell? ⟨w.heap.size,0,none⟩=some (.pointer (some ⟨l.gb,0,none⟩)):=(ht.has.right).cell w.heap.size 23 [.pointer (some ⟨l.gb,0,none⟩)] mcs 0 _ rfl;have hc4:wr.cell? ⟨l.gb,4,none⟩=some (.pointer (some ⟨l.wb,0,none⟩)):=cell hG 4 _ rfl;have HNt:=Wheel.next_any K.o.wheel HSl.o ((ht.has.perm (perm_next l g ho _)).left) (by have:=OO.o.few;omega) (by rw [readys_length];omega);rw [readys_getD g K.o.len,show g.turns.find? g.readyAt=none from HNx.o] at HNt;have HNt:=hhh HNt;clear hG ht;go_wp2_with (fail);refine HNt.o.mono ?_;rintro e W1 ⟨rfl,rfl⟩;have TE:=hhh (fun x=>(show Own.Turn (l.heap g) (l.heap g) w (W1.alloc x) from Own.Turn.forget (b:=[BG w.heap.size l.gb]) (Own.Turn.forget (b:=ho) (HT.o.litter x))));go_wp2;go_ret2;exact ⟨rfl,TE.o _⟩
theorem run_turn (k : l.Good g) (o : g.Ok T N) (hN : N ≤ 2500) (h : Own.Has w (l.heap g)) (hB : ∀ x ∈ Own.blocks (l.heap g), Esc.tabsEnd ≤ x) (hT : Esc.TabsAt T w) (i : Nat) (hnext : g.next = some i) (s : Se) (hs : g.slots[i]? = some (some s)) (ht : Ses.Told s) :
  Calls Tryz.prog 13 #[.pointer (some ⟨l.gb,0,none⟩)] w fun e w'=>e = .returned (.tuple #[.int .i64 (g.ids.getD i 0:Nat),.int .i64 ((s.run (Pip.textT T) (some fun z=>g.pu.lets i z.toNat) 16).2:Nat)]) /\
   ∃ l' g',Lay.Good l' g' /\ g'.Ok T (N + 16) /\ g'.slots=g.slots.set i (some (s.run (Pip.textT T) (some fun z=>g.pu.lets i z.toNat) 16).1) /\ g'.n=g.n /\ g'.ids=g.ids /\ g'.many=g.many /\ g'.pu.rest=g.pu.rest /\ g'.now=g.now /\ g'.turns=g.turns.erase i ++ [i] /\ l'.gb=l.gb /\ Own.Turn (l.heap g) (l'.heap g') w w':=by
 have h8:=k.small;have TB:=hhh (show Own.Turn (l.heap g) (BG w.heap.size l.gb :: l.heap g) w (w.alloc (.cells #[.pointer (some ⟨l.gb,0,none⟩)] 23)) from (Own.Turn.refl h).allocRow w.heap.size rfl 23 [.pointer (some ⟨l.gb,0,none⟩)]);have c0:∀ o,(w.alloc o).cell? ⟨l.gb,0,none⟩=some (.slice (some ⟨l.sb,0,none⟩) g.n g.n):=fun x=>cell (((Own.Turn.refl h).litter x).has) 0 _ rfl
 obtain ⟨i0,hi,hz0,hz1,hz2⟩:=info_parts (P:=Tryz.prog) (e:=4) (z:=.bool false) (size:=1) (bytes:=1) (by kernel_rfl);have Hi:=hhh (And.intro hi (And.intro hz0 (And.intro hz1 hz2)));have HH:=hhh h;have K:=hhh k;have OO:=hhh o;have HNx:=hhh hnext;obtain ⟨RR,hRR⟩:∃ RR,RR=s.run (Pip.textT T) (some fun z=>g.pu.lets i z.toNat) 16:=⟨_,rfl⟩;have HRR:=hhh hRR;rw [<- hRR];have HB:=hhh (And.intro hB (And.intro hT hN));have HSs:=hhh (And.intro hs ht);clear hi hz0 hz1 hz2 k o h hnext hB hT hN hs ht hRR;go_enter Tryz.func13,Tryz.ntmps13;go_wp2;go_loopw [4,22] (fun q x wr=>∃ (j m:Nat) (ad:Option Addr) (c:Nat) (ho:Own.Heap),q = .slice ad m c /\ x = .int .i64 j /\ j <= g.n /\ m=j /\ Own.Slc 4 (bools (g.readys j)) (.slice ad m c) ho /\ Own.Turn (l.heap g) (ho ++ (BG w.heap.size l.gb :: l.heap g)) w wr) (fun _ x _=>g.n - (intOf x).toNat)
 case atStart=>exact ⟨0,0,none,0,[],rfl,rfl,by omega,rfl,Own.Slc.bare none rfl,TB.o⟩
 case round =>
  obtain ⟨j,m,ad,c,ho,rfl,rfl,hj,hm,hs,ht⟩:=hrel;subst hm;have HSl:=hhh hs;have HT:=hhh ht;have hG:Own.Has wr (l.heap g):=(ht.has.right).right (a:=[_]);clear hs;by_cases hjn:m < g.n
  ·have hjv:m < l.vs.length:=by rw [K.o.vlen];exact hjn
   have hjs:m < g.slots.length:=by rw [K.o.len];exact hjn
   have hI:(m:Int) < (g.n:Int):=by omega
   have cs:=cellS hG m _ (List.getElem?_eq_getElem hjv);have hm8:m <= 8:=by omega
   have HG:=hhh hG;have hlen:=hhh (show (bools (g.readys m)).length=m by rw [Wheel.length_bools,readys_length])
   cases hs:g.slots[m]'hjs with
   | none =>
    have hs':g.slots[m]? = some none:=by rw [List.getElem?_eq_getElem hjs,hs]
    obtain ⟨hv,_⟩:=K.o.slots.none_at m hs';rw [List.getElem?_eq_getElem hjv] at hv;rw [Option.some.inj hv] at cs;have HL:=hhh (show g.readys (m + 1)=g.readys m ++ [false] by rw [readys_succ];unfold Ga.readyAt;rw [hs']);clear hs hs' hv hG ht;go_wp2_with (fail);refine (ready_nil wr).mono ?_;rintro e W1 ⟨rfl,rfl⟩;go_wp2_with (at_builtin;go_loud (refine Own.wpList_append_one rfl _ _ 72 rfl 4 i0 (.bool false) 1 Tryz.underlying72 Hi.o.1 Hi.o.2.1 Hi.o.2.2.1 Hi.o.2.2.2 rfl (.slice ad m c) (bools (g.readys m)) m hlen.o ho (BG w.heap.size l.gb :: l.heap g) rfl HSl.o HT.o.has (.bool false) rfl rfl ?c1 ?c2 ?_))
    case c1=>simp only [maxLen];omega
    case c2=>omega
    intro ad' c' h' w1 hs' ht';go_wp2;go_roundw
    case rel =>
     refine ⟨m + 1,m + 1,ad',c',h',rfl,by go_num,by omega,rfl,?_,HT.o.trans ht'⟩;rw [HL.o,show bools (g.readys m ++ [false])=bools (g.readys m) ++ [.bool false] by simp [bools]];exact hs'
    case measure=>simp [intOf];omega
   | some s =>
    have hs':g.slots[m]? = some (some s):=by rw [List.getElem?_eq_getElem hjs,hs]
    obtain ⟨b,k1,k0,k2,hv,e2,e3,_,_⟩:=K.o.slots.some_at m s hs';rw [List.getElem?_eq_getElem hjv] at hv;rw [Option.some.inj hv] at cs;have HRd:=hhh (Ses.ready_any e3 (sess hG k1 k0 k2 e2));obtain ⟨RB,hRB⟩:∃ RB,RB=s.ready:=⟨_,rfl⟩;have HL:=hhh (show g.readys (m + 1)=g.readys m ++ [RB] by rw [readys_succ];unfold Ga.readyAt;rw [hs',hRB]);rw [<- hRB] at HRd;clear hs hs' hv hG ht hRB e2 e3;go_wp2_with (fail);refine HRd.o.mono ?_;rintro e W1 ⟨rfl,rfl⟩;go_wp2_with (at_builtin;go_loud (refine Own.wpList_append_one rfl _ _ 72 rfl 4 i0 (.bool false) 1 Tryz.underlying72 Hi.o.1 Hi.o.2.1 Hi.o.2.2.1 Hi.o.2.2.2 rfl (.slice ad m c) (bools (g.readys m)) m hlen.o ho (BG w.heap.size l.gb :: l.heap g) rfl HSl.o HT.o.has (.bool RB) rfl rfl ?c1 ?c2 ?_))
    case c1=>simp only [maxLen];omega
    case c2=>omega
    intro ad' c' h' w1 hs' ht';go_wp2;go_roundw
    case rel =>
     refine ⟨m + 1,m + 1,ad',c',h',rfl,by go_num,by omega,rfl,?_,HT.o.trans ht'⟩;rw [HL.o,show bools (g.readys m ++ [RB])=bools (g.readys m) ++ [.bool RB] by simp [bools]];exact hs'
    case measure=>simp [intOf];omega
  ·obtain rfl:m=g.n:=by omega
   have hcb:wr.cell? ⟨w.heap.size,0,none⟩=some (.pointer (some ⟨l.gb,0,none⟩)):=(ht.has.right).cell w.heap.size 23 [.pointer (some ⟨l.gb,0,none⟩)] mcs 0 _ rfl;have hc4:wr.cell? ⟨l.gb,4,none⟩=some (.pointer (some ⟨l.wb,0,none⟩)):=cell hG 4 _ rfl;have HNt:=Wheel.next_any K.o.wheel HSl.o ((ht.has.perm (perm_next l g ho _)).left) (by have:=OO.o.few;omega) (by rw [readys_length];omega);rw [readys_getD g K.o.len,show g.turns.find? g.readyAt=some i from HNx.o] at HNt;have HNt:=hhh HNt;clear hG ht;go_wp2_with (fail);refine HNt.o.mono ?_;rintro e W1 ⟨rfl,hw1,wi1,t1⟩;have T1:=hhh (show Own.Turn (l.heap g) ((BG w.heap.size l.gb) :: ({ l with hw:=hw1 }:Lay).heap ({ g with turns:=g.turns.erase i ++ [i] }:Ga)) w W1 from Own.Turn.forget (b:=ho) (HT.o.trans (Own.Turn.focus HT.o.has (perm_next l g ho _) (fun _=>t1) (perm_next ({ l with hw:=hw1 }:Lay) ({ g with turns:=g.turns.erase i ++ [i] }:Ga) ho _))));have WI:=hhh wi1;have HIL:=hhh (show i < g.n by rw [<- K.o.len];exact (List.getElem?_eq_some_iff.1 HSs.o.1).1);have HID:=hhh (show i < g.ids.length by rw [K.o.ids];exact HIL.o);have HIV:=hhh (show i < l.vs.length by rw [K.o.vlen];exact HIL.o);obtain ⟨b,k1,h0,k2,hv,a2,a3,a4,_⟩:=K.o.slots.some_at i s HSs.o.1;have HA:=hhh (And.intro a2 (And.intro a3 a4));have Hv:=hhh hv;have TS:=hhh (show Own.Turn (l.heap g) ((BS W1.heap.size i) :: (BG w.heap.size l.gb) :: ({ l with hw:=hw1 }:Lay).heap ({ g with turns:=g.turns.erase i ++ [i] }:Ga)) w (W1.alloc (.cells #[.int .i64 (i:Int)] 3)) from T1.o.allocRow W1.heap.size rfl 3 [.int .i64 (i:Int)]);have hI:(i:Int) < (g.n:Int):=by have:=HIL.o;omega
   have hao:=fun x=>(T1.o.litter x).has
   have d0:∀ x,(W1.alloc x).cell? ⟨w.heap.size,0,none⟩=some (.pointer (some ⟨l.gb,0,none⟩)):=fun x=>(hao x).cell w.heap.size 23 [.pointer (some ⟨l.gb,0,none⟩)] mcs 0 _ rfl
   have d1:∀ x,(W1.alloc x).cell? ⟨l.gb,0,none⟩=some (.slice (some ⟨l.sb,0,none⟩) g.n g.n):=fun x=>cell ((hao x).right (a:=[_])) 0 _ rfl
   have d2:∀ x,(W1.alloc x).cell? ⟨l.sb,i,none⟩=some (.pointer (some ⟨b,0,none⟩)):=fun x=>cellS ((hao x).right (a:=[_])) i _ hv
   obtain ⟨tb,htb⟩:∃ tb,tb=s.told:=⟨_,rfl⟩;have P1:=hhh (perm_run ({ l with hw:=hw1 }:Lay) ({ g with turns:=g.turns.erase i ++ [i] }:Ga) w.heap.size W1.heap.size i k1 h0 k2 a2);have P1b:=hhh (show ((BS W1.heap.size i) :: (BG w.heap.size l.gb) :: ({ l with hw:=hw1 }:Lay).heap ({ g with turns:=g.turns.erase i ++ [i] }:Ga)).Perm (h0 ++ (cl w.heap.size W1.heap.size ({ l with hw:=hw1 }:Lay) ({ g with turns:=g.turns.erase i ++ [i] }:Ga) i g.pu ++ (({ l with hw:=hw1 }:Lay).srow :: ({ l with hw:=hw1 }:Lay).irow ({ g with turns:=g.turns.erase i ++ [i] }:Ga) :: (({ l with hw:=hw1 }:Lay).hw ++ (({ l with hw:=hw1 }:Lay).ht ++ (k1 ++ k2)))))) from P1.o.trans (List.Perm.of_eq (List.append_assoc _ _ _)));have HSt:=fun m=>Ses.setup_any a3 ((TS.o.has.drewN m).perm P1b.o).left
   simp only [Pip.Setup.val,<- htb] at HSt;have HSt:=hhh HSt;have HTb:=hhh htb;clear wi1 t1 hao hv a2 a3 a4 htb hcb hc4 HNt;go_wp2;go_quiet (fail);rename_i nq;go_wp2_with (fail);refine (HSt.o _).mono ?_;rintro e W3 ⟨rfl,t3⟩;have T3:=hhh ((TS.o.drewN nq).trans (Own.Turn.focus (TS.o.has.drewN nq) P1b.o (fun _=>t3) P1b.o));have hip:i < g.pu.has.length:=by rw [K.o.pun];exact HIL.o
   have ho2:g.pu.opn[i]'(K.o.pu.same ▸ hip)=true:=by
    have h9:=OO.o.opn_at i s HSs.o.1;rw [List.getElem?_eq_getElem (K.o.pu.same ▸ hip)] at h9;exact Option.some.inj h9
   have hW0:Way w.heap.size W1.heap.size ({ l with hw:=hw1 }:Lay) ({ g with turns:=g.turns.erase i ++ [i] }:Ga) i (cl w.heap.size W1.heap.size ({ l with hw:=hw1 }:Lay) ({ g with turns:=g.turns.erase i ++ [i] }:Ga) i g.pu):=way_start _ _ _ _ i hip K.o.pu;have HRn:=fun x=>Ses.run_gate (T:=T) (n:=N) (Inv:=Way w.heap.size W1.heap.size ({ l with hw:=hw1 }:Lay) ({ g with turns:=g.turns.erase i ++ [i] }:Ga) i) hW0 HA.o.2.1 (((T3.o.litter x).has.perm P1.o).left) (OO.o.sess s (List.mem_of_getElem? HSs.o.1)) HB.o.2.2
    (fun y hy=>(T3.o.litter x).least HB.o.1 HB.o.2.1.size y (((P1.o.map Prod.fst).mem_iff).2 (by rw [List.map_append,List.mem_append];exact .inl hy)))
    (HB.o.2.1.of ((T3.o.litter x).below HB.o.1 HB.o.2.1.size)) (.pointer (some ⟨w.heap.size,0,none⟩)) (.pointer (some ⟨W1.heap.size,0,none⟩)) (fun z=>g.pu.lets i z.toNat)
    (fun W z d hd hW hz=>way_on w.heap.size W1.heap.size ({ l with hw:=hw1 }:Lay) ({ g with turns:=g.turns.erase i ++ [i] }:Ga) i hip K.o.pu.same ho2 W z d hd hW hz)
   simp only [<- HRR.o] at HRn;have HRn:=hhh HRn;clear t3 HSt d0 d1 d2 hW0 ho2;go_wp2_with (fail);refine (HRn.o _).mono ?_;rintro e W5 ⟨rfl,h0',i5,c5,⟨v,rfl,fv,lv⟩,t5⟩;have T5:=(T3.o.litter _).trans (Own.Turn.focus (T3.o.litter _).has P1.o (fun _=>t5) (perm_run ({ l with hw:=hw1,hs:=k1 ++ (h0' ++ k2) }:Lay) ({ g with turns:=g.turns.erase i ++ [i],slots:=g.slots.set i (some RR.1),pu:=g.pu.put i v }:Ga) w.heap.size W1.heap.size i k1 h0' k2 rfl));have T5:=hhh (show Own.Turn (l.heap g) ((BS W1.heap.size i) :: (BG w.heap.size l.gb) :: ({ l with hw:=hw1,hs:=k1 ++ (h0' ++ k2) }:Lay).heap ({ g with turns:=g.turns.erase i ++ [i],slots:=g.slots.set i (some RR.1),pu:=g.pu.put i v }:Ga)) w W5 from T5);have I5:=hhh i5;have HGd:=hhh (show RR.1.Good T (N + 16) by rw [HRR.o];exact Ses.run_good _ 16 N s (OO.o.sess s (List.mem_of_getElem? HSs.o.1)) (by have:=HB.o.2.2;omega));have hfit:(g.pu.put i v).lets i RR.1.charge=true:=by
    rw [lv,HRR.o];refine Ses.run_fits (Pip.textT T) (fun z=>g.pu.lets i z.toNat) (fun a b hab hb=>lets_down g.pu i a b hab hb) 16 s ?_;show g.pu.lets i s.charge=true;have:=lets_own g.pu i
    rwa [has_getD OO.o i s HSs.o.1] at this
   have FV:=hhh (And.intro fv (show Purse.over RR.1.charge <= (g.pu.put i v).left + Purse.over ((g.pu.put i v).has.getD i 0) by unfold Purse.St.lets at hfit;simpa using hfit));have SL:=hhh (HA.o.2.2 RR.1 h0' i5);have HTo:=hhh (show Ses.Told RR.1 by rw [HRR.o];exact Ses.told_run _ _ 16 s HSs.o.2);have OKR:=hhh (((OO.o.mono (Nat.le_add_right N 16) (by have:=HB.o.2.2;omega)).turned i s HSs.o.1).setS i s RR.1 HSs.o.1 HGd.o);have P2:=hhh (show ((BS W1.heap.size i) :: (BG w.heap.size l.gb) :: ({ l with hw:=hw1,hs:=k1 ++ (h0' ++ k2) }:Lay).heap ({ g with turns:=g.turns.erase i ++ [i],slots:=g.slots.set i (some RR.1),pu:=g.pu.put i v }:Ga)).Perm (h0' ++ (cl w.heap.size W1.heap.size ({ l with hw:=hw1,hs:=k1 ++ (h0' ++ k2) }:Lay) ({ g with turns:=g.turns.erase i ++ [i],slots:=g.slots.set i (some RR.1),pu:=g.pu.put i v }:Ga) i (g.pu.put i v) ++ (({ l with hw:=hw1,hs:=k1 ++ (h0' ++ k2) }:Lay).srow :: ({ l with hw:=hw1,hs:=k1 ++ (h0' ++ k2) }:Lay).irow ({ g with turns:=g.turns.erase i ++ [i],slots:=g.slots.set i (some RR.1),pu:=g.pu.put i v }:Ga) :: (({ l with hw:=hw1,hs:=k1 ++ (h0' ++ k2) }:Lay).hw ++ (({ l with hw:=hw1,hs:=k1 ++ (h0' ++ k2) }:Lay).ht ++ (k1 ++ k2)))))) from (perm_run ({ l with hw:=hw1,hs:=k1 ++ (h0' ++ k2) }:Lay) ({ g with turns:=g.turns.erase i ++ [i],slots:=g.slots.set i (some RR.1),pu:=g.pu.put i v }:Ga) w.heap.size W1.heap.size i k1 h0' k2 rfl).trans (List.Perm.of_eq (List.append_assoc _ _ _)));obtain ⟨tr,htr⟩:∃ tr,tr=RR.1.told:=⟨_,rfl⟩;have HSt2:=Ses.setup_any i5 (T5.o.has.perm P2.o).left;simp only [Pip.Setup.val,<- htr] at HSt2;have HTr:=hhh htr;have HSt2:=hhh HSt2;clear i5 t5 fv lv hfit htr HRn hip;go_wp2_with (fail);refine HSt2.o.mono ?_;rintro e W6 ⟨rfl,t6⟩;have T6:=hhh (T5.o.trans (Own.Turn.focus T5.o.has P2.o (fun _=>t6) P2.o));have T6o:=hhh (fun x=>T6.o.litter x);have d0:∀ x,(W6.alloc x).cell? ⟨w.heap.size,0,none⟩=some (.pointer (some ⟨l.gb,0,none⟩)):=fun x=>(T6o.o x).has.cell w.heap.size 23 [.pointer (some ⟨l.gb,0,none⟩)] (mcm _ mcs) 0 _ rfl
   have d1:∀ x,(W6.alloc x).cell? ⟨W1.heap.size,0,none⟩=some (.int .i64 (i:Int)):=fun x=>(T6o.o x).has.cell W1.heap.size 3 [.int .i64 (i:Int)] mcs 0 _ rfl
   clear t6 HSt2
   cases tr with
   | false =>
    have HC:=hhh (fun (W:World) (hW:Own.Has W (({ l with hw:=hw1,hs:=k1 ++ (h0' ++ k2) }:Lay).heap ({ g with turns:=g.turns.erase i ++ [i],slots:=g.slots.set i (some RR.1),pu:=g.pu.put i v }:Ga)))=>charge_any (l:=({ l with hw:=hw1,hs:=k1 ++ (h0' ++ k2) }:Lay)) (g:=({ g with turns:=g.turns.erase i ++ [i],slots:=g.slots.set i (some RR.1),pu:=g.pu.put i v }:Ga)) ⟨(List.length_set ..).trans K.o.len,K.o.ids,(List.length_set ..).trans K.o.pun,FV.o.1,WI.o,K.o.timer,SL.o⟩ hW i RR.1 (by show (g.slots.set i (some RR.1))[i]? = _;exact List.getElem?_set_self (by rw [K.o.len];exact HIL.o)) (OO.o.opn_at i s HSs.o.1) HGd.o (by have:=HB.o.2.2;omega) FV.o.2);go_wp2_with (fail);refine (HC.o _ ((T6o.o _).has.right (a:=[_,_]))).mono ?_;rintro e W9 ⟨⟨v9,rfl⟩,k9,t9⟩;have T9:=hhh ((T6o.o _).trans (Own.Turn.behind (r:=[_,_]) t9 (T6o.o _).has));have K9:=hhh k9;have hW9:=T9.o.has.right (a:=[_,_]);have e0:W9.cell? ⟨w.heap.size,0,none⟩=some (.pointer (some ⟨l.gb,0,none⟩)):=T9.o.has.cell w.heap.size 23 [.pointer (some ⟨l.gb,0,none⟩)] (mcm _ mcs) 0 _ rfl;have e1:W9.cell? ⟨W1.heap.size,0,none⟩=some (.int .i64 (i:Int)):=T9.o.has.cell W1.heap.size 3 [.int .i64 (i:Int)] mcs 0 _ rfl;have e2:W9.cell? ⟨l.gb,1,none⟩=some (.slice (some ⟨l.ib,0,none⟩) g.n g.n):=cell hW9 1 _ rfl;have e3:W9.cell? ⟨l.ib,i,none⟩=some (.int .i64 ((g.ids[i]'HID.o:Nat):Int)):=cellI hW9 i HID.o;have hI:(i:Int) < (g.n:Int):=by have:=HIL.o;omega
    have HIe:=hhh (show g.ids.getD i 0=g.ids[i]'HID.o by have:=HID.o;simp [List.getD_eq_getElem?_getD,this]);clear k9 t9 hW9 HC;go_wp2;go_quiet (fail);go_wp2;go_ret2;rw [HIe.o];have EE:(({ g with turns:=g.turns.erase i ++ [i],slots:=g.slots.set i (some RR.1),pu:=g.pu.put i v }:Ga)).putPu i RR.1.charge=((({ g with turns:=g.turns.erase i ++ [i] }:Ga).setS i RR.1).putPu i RR.1.charge):=by
     show ({ (({ g with turns:=g.turns.erase i ++ [i],slots:=g.slots.set i (some RR.1),pu:=g.pu.put i v }:Ga)) with pu:=(g.pu.put i v).put i RR.1.charge }:Ga)=_;rw [put_put];rfl
    refine ⟨rfl,({ l with hw:=hw1,hs:=k1 ++ (h0' ++ k2) }:Lay),(({ g with turns:=g.turns.erase i ++ [i],slots:=g.slots.set i (some RR.1),pu:=g.pu.put i v }:Ga)).putPu i RR.1.charge,K9.o,by rw [EE];exact OKR.o,rfl,rfl,rfl,rfl,rfl,rfl,rfl,rfl,?_⟩;exact Own.Turn.forget (b:=[_,_]) (T9.o.drewN _)
   | true =>
    cases tb with
    | true =>
     have HC:=hhh (fun (W:World) (hW:Own.Has W (({ l with hw:=hw1,hs:=k1 ++ (h0' ++ k2) }:Lay).heap ({ g with turns:=g.turns.erase i ++ [i],slots:=g.slots.set i (some RR.1),pu:=g.pu.put i v }:Ga)))=>charge_any (l:=({ l with hw:=hw1,hs:=k1 ++ (h0' ++ k2) }:Lay)) (g:=({ g with turns:=g.turns.erase i ++ [i],slots:=g.slots.set i (some RR.1),pu:=g.pu.put i v }:Ga)) ⟨(List.length_set ..).trans K.o.len,K.o.ids,(List.length_set ..).trans K.o.pun,FV.o.1,WI.o,K.o.timer,SL.o⟩ hW i RR.1 (by show (g.slots.set i (some RR.1))[i]? = _;exact List.getElem?_set_self (by rw [K.o.len];exact HIL.o)) (OO.o.opn_at i s HSs.o.1) HGd.o (by have:=HB.o.2.2;omega) FV.o.2);go_wp2_with (fail);refine (HC.o _ ((T6o.o _).has.right (a:=[_,_]))).mono ?_;rintro e W9 ⟨⟨v9,rfl⟩,k9,t9⟩;have T9:=hhh ((T6o.o _).trans (Own.Turn.behind (r:=[_,_]) t9 (T6o.o _).has));have K9:=hhh k9;have hW9:=T9.o.has.right (a:=[_,_]);have e0:W9.cell? ⟨w.heap.size,0,none⟩=some (.pointer (some ⟨l.gb,0,none⟩)):=T9.o.has.cell w.heap.size 23 [.pointer (some ⟨l.gb,0,none⟩)] (mcm _ mcs) 0 _ rfl;have e1:W9.cell? ⟨W1.heap.size,0,none⟩=some (.int .i64 (i:Int)):=T9.o.has.cell W1.heap.size 3 [.int .i64 (i:Int)] mcs 0 _ rfl;have e2:W9.cell? ⟨l.gb,1,none⟩=some (.slice (some ⟨l.ib,0,none⟩) g.n g.n):=cell hW9 1 _ rfl;have e3:W9.cell? ⟨l.ib,i,none⟩=some (.int .i64 ((g.ids[i]'HID.o:Nat):Int)):=cellI hW9 i HID.o;have hI:(i:Int) < (g.n:Int):=by have:=HIL.o;omega
     have HIe:=hhh (show g.ids.getD i 0=g.ids[i]'HID.o by have:=HID.o;simp [List.getD_eq_getElem?_getD,this]);clear k9 t9 hW9 HC;go_wp2;go_quiet (fail);go_wp2;go_ret2;rw [HIe.o];have EE:(({ g with turns:=g.turns.erase i ++ [i],slots:=g.slots.set i (some RR.1),pu:=g.pu.put i v }:Ga)).putPu i RR.1.charge=((({ g with turns:=g.turns.erase i ++ [i] }:Ga).setS i RR.1).putPu i RR.1.charge):=by
      show ({ (({ g with turns:=g.turns.erase i ++ [i],slots:=g.slots.set i (some RR.1),pu:=g.pu.put i v }:Ga)) with pu:=(g.pu.put i v).put i RR.1.charge }:Ga)=_;rw [put_put];rfl
     refine ⟨rfl,({ l with hw:=hw1,hs:=k1 ++ (h0' ++ k2) }:Lay),(({ g with turns:=g.turns.erase i ++ [i],slots:=g.slots.set i (some RR.1),pu:=g.pu.put i v }:Ga)).putPu i RR.1.charge,K9.o,by rw [EE];exact OKR.o,rfl,rfl,rfl,rfl,rfl,rfl,rfl,rfl,?_⟩;exact Own.Turn.forget (b:=[_,_]) (T9.o.drewN _)
    | false =>
     obtain ⟨LM,hLM⟩:∃ LM:Nat,RR.1.setup.limit=(LM:Int):=⟨RR.1.setup.limit.toNat,by have:=(Pip.right_iff _).1 (HTo.o HTr.o.symm);omega⟩;rw [hLM];obtain ⟨A,c8,r8,B,he8,hA8⟩:=timed_split g.es i (OO.o.timed i s HSs.o.1);have HLim:=hhh (fun W (hW:Own.Has W (({ l with hw:=hw1,hs:=k1 ++ (h0' ++ k2) }:Lay).heap ({ g with turns:=g.turns.erase i ++ [i],slots:=g.slots.set i (some RR.1),pu:=g.pu.put i v }:Ga)))=>Timer.limit_any (es:=g.es) A B c8 r8 i he8 hA8 (by have:=K.o.small;have:=HIL.o;omega) LM (hW.perm (perm_timer ({ l with hw:=hw1,hs:=k1 ++ (h0' ++ k2) }:Lay) ({ g with turns:=g.turns.erase i ++ [i],slots:=g.slots.set i (some RR.1),pu:=g.pu.put i v }:Ga))).left K.o.timer 5 rfl);have TS8:=hhh (And.intro he8 hA8);clear hLM he8 hA8;go_wp2;go_region_with (refine (HLim.o _ (((T6o.o _).drewN _).has.right (a:=[_,_]))).mono ?_;rintro e W7 ⟨rfl,ht8,m8,t8⟩)
     all_goals
      have TL8:=hhh m8;have T7:=hhh (((T6o.o _).drewN _).trans (Own.Turn.behind (r:=[_,_]) (Own.Turn.focus (((T6o.o _).drewN _).has.right (a:=[_,_])) (perm_timer ({ l with hw:=hw1,hs:=k1 ++ (h0' ++ k2) }:Lay) ({ g with turns:=g.turns.erase i ++ [i],slots:=g.slots.set i (some RR.1),pu:=g.pu.put i v }:Ga)) (fun _=>t8) (perm_timer ({ l with hw:=hw1,hs:=k1 ++ (h0' ++ k2),ht:=ht8 }:Lay) ({ g with turns:=g.turns.erase i ++ [i],slots:=g.slots.set i (some RR.1),pu:=g.pu.put i v,es:=A ++ (i,c8,{ r8 with limit:=(LM:Int) }) :: B }:Ga))) ((T6o.o _).drewN _).has));have T7:=hhh (show Own.Turn (l.heap g) ((BS W1.heap.size i) :: (BG w.heap.size l.gb) :: ({ l with hw:=hw1,hs:=k1 ++ (h0' ++ k2),ht:=ht8 }:Lay).heap ({ g with turns:=g.turns.erase i ++ [i],slots:=g.slots.set i (some RR.1),pu:=g.pu.put i v,es:=A ++ (i,c8,{ r8 with limit:=(LM:Int) }) :: B }:Ga)) w W7 from T7.o);have d3:W7.cell? ⟨w.heap.size,0,none⟩=some (.pointer (some ⟨l.gb,0,none⟩)):=T7.o.has.cell w.heap.size 23 [.pointer (some ⟨l.gb,0,none⟩)] (mcm _ mcs) 0 _ rfl;have d4:W7.cell? ⟨W1.heap.size,0,none⟩=some (.int .i64 (i:Int)):=T7.o.has.cell W1.heap.size 3 [.int .i64 (i:Int)] mcs 0 _ rfl;clear m8 t8 HLim d0 d1;have HC:=hhh (fun (W:World) (hW:Own.Has W (({ l with hw:=hw1,hs:=k1 ++ (h0' ++ k2),ht:=ht8 }:Lay).heap ({ g with turns:=g.turns.erase i ++ [i],slots:=g.slots.set i (some RR.1),pu:=g.pu.put i v,es:=A ++ (i,c8,{ r8 with limit:=(LM:Int) }) :: B }:Ga)))=>charge_any (l:=({ l with hw:=hw1,hs:=k1 ++ (h0' ++ k2),ht:=ht8 }:Lay)) (g:=({ g with turns:=g.turns.erase i ++ [i],slots:=g.slots.set i (some RR.1),pu:=g.pu.put i v,es:=A ++ (i,c8,{ r8 with limit:=(LM:Int) }) :: B }:Ga)) ⟨(List.length_set ..).trans K.o.len,K.o.ids,(List.length_set ..).trans K.o.pun,FV.o.1,WI.o,TL8.o,SL.o⟩ hW i RR.1 (by show (g.slots.set i (some RR.1))[i]? = _;exact List.getElem?_set_self (by rw [K.o.len];exact HIL.o)) (OO.o.opn_at i s HSs.o.1) HGd.o (by have:=HB.o.2.2;omega) FV.o.2)
      go_wp2_with (fail);refine (HC.o _ ((T7.o).has.right (a:=[_,_]))).mono ?_;rintro e W9 ⟨⟨v9,rfl⟩,k9,t9⟩;have T9:=hhh ((T7.o).trans (Own.Turn.behind (r:=[_,_]) t9 (T7.o).has));have K9:=hhh k9;have hW9:=T9.o.has.right (a:=[_,_]);have e0:W9.cell? ⟨w.heap.size,0,none⟩=some (.pointer (some ⟨l.gb,0,none⟩)):=T9.o.has.cell w.heap.size 23 [.pointer (some ⟨l.gb,0,none⟩)] (mcm _ mcs) 0 _ rfl;have e1:W9.cell? ⟨W1.heap.size,0,none⟩=some (.int .i64 (i:Int)):=T9.o.has.cell W1.heap.size 3 [.int .i64 (i:Int)] mcs 0 _ rfl;have e2:W9.cell? ⟨l.gb,1,none⟩=some (.slice (some ⟨l.ib,0,none⟩) g.n g.n):=cell hW9 1 _ rfl;have e3:W9.cell? ⟨l.ib,i,none⟩=some (.int .i64 ((g.ids[i]'HID.o:Nat):Int)):=cellI hW9 i HID.o;have hI:(i:Int) < (g.n:Int):=by have:=HIL.o;omega
      have HIe:=hhh (show g.ids.getD i 0=g.ids[i]'HID.o by have:=HID.o;simp [List.getD_eq_getElem?_getD,this]);clear k9 t9 hW9 HC;go_wp2;go_quiet (fail);go_wp2;go_ret2;rw [HIe.o];have EE:(({ g with turns:=g.turns.erase i ++ [i],slots:=g.slots.set i (some RR.1),pu:=g.pu.put i v,es:=A ++ (i,c8,{ r8 with limit:=(LM:Int) }) :: B }:Ga)).putPu i RR.1.charge=({ ((({ g with turns:=g.turns.erase i ++ [i] }:Ga).setS i RR.1).putPu i RR.1.charge) with es:=A ++ (i,c8,{ r8 with limit:=(LM:Int) }) :: B }:Ga):=by
       show ({ (({ g with turns:=g.turns.erase i ++ [i],slots:=g.slots.set i (some RR.1),pu:=g.pu.put i v,es:=A ++ (i,c8,{ r8 with limit:=(LM:Int) }) :: B }:Ga)) with pu:=(g.pu.put i v).put i RR.1.charge }:Ga)=_;rw [put_put];rfl
      refine ⟨rfl,({ l with hw:=hw1,hs:=k1 ++ (h0' ++ k2),ht:=ht8 }:Lay),(({ g with turns:=g.turns.erase i ++ [i],slots:=g.slots.set i (some RR.1),pu:=g.pu.put i v,es:=A ++ (i,c8,{ r8 with limit:=(LM:Int) }) :: B }:Ga)).putPu i RR.1.charge,K9.o,by rw [EE];exact OKR.o.touch _ (by show _=g.es.map Prod.fst;rw [TS8.o.1];simp),rfl,rfl,rfl,rfl,rfl,rfl,rfl,rfl,?_⟩;exact Own.Turn.forget (b:=[_,_]) (T9.o.drewN _)
end
end Gate
end
section
open Go.RowKit
namespace Gate
structure Fed (n:Nat) (S:Se) (i:Nat) (g:Ga):Prop where
 num:g.n=n
 at_:∀ j,j < n -> g.slots[j]? = some (if j < i then some S else none)
 many:g.many=i
 turns:g.turns=List.range i
 rest:g.pu.rest=40000 - n * 700
 ids:∀ j,j < i -> g.ids[j]? = some (j + n * j)
 now:g.now=0
theorem Fed.first {n i:Nat} {S:Se} {g:Ga} (f:Fed n S i g) (hi:i < n):g.slots[i]? = some none /\ ∀ j,j < i -> g.slots[j]? ≠ some none:=by
 refine ⟨?_,fun j hj=>?_⟩
 ·rw [f.at_ i hi,if_neg (Nat.lt_irrefl _)]
 ·rw [f.at_ j (by omega),if_pos hj];intro h;cases h
theorem Fed.find {n i c : Nat} {S : Se} {g : Ga} (f : Fed n S i g) (hi : i < n) (hl : g.slots.length = g.n) (hd : g.ids.length = g.n) :
  (g.begin_ i c).find ((i + n * i:Nat):Int)=some i /\ (g.begin_ i c).slots[i]? = some (some Ses.St.new):=by
 have hs:(g.begin_ i c).slots[i]? = some (some Ses.St.new):=by
  show (g.slots.set i (some Ses.St.new))[i]? = _;exact List.getElem?_set_self (by rw [hl,f.num];exact hi)
 refine ⟨?_,hs⟩;have hm:(i + n * i) % n=i:=by rw [Nat.add_mul_mod_self_left,Nat.mod_eq_of_lt hi]
 have hids:(g.begin_ i c).ids[i]? = some (i + n * i):=by
  show (g.ids.set i (i + g.n * g.many))[i]? = _;rw [List.getElem?_set_self (by rw [hd,f.num];exact hi),f.num,f.many]
 unfold Ga.find;rw [if_neg (by omega)];simp only [Int.toNat_natCast,show (g.begin_ i c).n=n from f.num,hm,hs,hids,if_true]
theorem Fed.step {n i c:Nat} {S:Se} {g g':Ga} (f:Fed n S i g) (hi:i < n) (hl:g.slots.length=g.n) (hd:g.ids.length=g.n) (hs:g'.slots=(g.begin_ i c).slots.set i (some S)) (k:(g.begin_ i c).Like g'):Fed n S (i + 1) g':=by
 have hsl:g'.slots=g.slots.set i (some S):=by
  rw [hs];show (g.slots.set i (some Ses.St.new)).set i (some S)=_;rw [List.set_set]
 refine ⟨k.n.trans f.num,fun j hj=>?_,?_,?_,k.rest.trans f.rest,fun j hj=>?_,k.now.trans f.now⟩
 ·rw [hsl]
  by_cases hij:i=j
  ·subst hij
   rw [List.getElem?_set_self (by rw [hl,f.num];exact hi),if_pos (Nat.lt_succ_self _)]
  ·rw [List.getElem?_set_ne hij,f.at_ j hj]
   by_cases h2:j < i
   ·rw [if_pos h2,if_pos (by omega)]
   ·rw [if_neg h2,if_neg (by omega)]
 ·rw [k.many];show g.many + 1=_;rw [f.many]
 ·rw [k.turns];show g.turns ++ [i]=_;rw [f.turns,List.range_succ]
 ·rw [k.ids]
  show (g.ids.set i (i + g.n * g.many))[j]? = _;by_cases hij:i=j
  ·subst hij
   rw [List.getElem?_set_self (by rw [hd,f.num];exact hi),f.num,f.many]
  ·rw [List.getElem?_set_ne hij]
   exact f.ids j (by omega)
theorem Fed.new (n:Nat) (S:Se):Fed n S 0 (Ga.new 40000 n) where
 num:=rfl
 at_:=fun j hj=>by
  show (List.replicate n none)[j]? = _
  rw [List.getElem?_replicate,if_pos hj,if_neg (Nat.not_lt_zero _)]
 many:=rfl
 turns:=rfl
 rest:=rfl
 ids:=fun j hj=>by omega
 now:=rfl
theorem feed_all (b:List UInt8) (R:Nat) (hb:b.length <= 64) (hR:64 <= R):Ses.St.new.takes b (R:Int)=b.length /\ Ses.St.new.feed b (R:Int)=Ses.fresh b:=by
 have h1:Ses.St.new.takes b (R:Int)=b.length:=by
  show (Ses.fresh []).takes b (R:Int)=_;rw [Ses.fresh_takes,Int.toNat_natCast];simp only [List.length_nil];omega
 refine ⟨h1,?_⟩;show (Ses.fresh []).feed b (R:Int)=_;have h2:(Ses.fresh []).takes b (R:Int)=b.length:=h1;rw [Ses.fresh_feed,h2,List.take_length,List.nil_append]
end Gate
end
section
open Go.RowKit
namespace Gate
open Gr
structure Runs (text:Json.Part -> List UInt8) (b:List UInt8) (n:Nat) (r:Nat -> Nat) (g:Ga):Prop where
 num:g.n=n
 at_:∀ j,j < n -> g.slots[j]? = some (some (Ses.rst text b (r j)))
 ids:∀ j,j < n -> g.ids[j]? = some (j + n * j)
theorem Fed.runs {n:Nat} {b:List UInt8} {g:Ga} (text:Json.Part -> List UInt8) (f:Fed n (Ses.fresh b) n g):Runs text b n (fun _=>0) g :=
 ⟨f.num,fun j hj=>by rw [f.at_ j hj,if_pos hj];rfl,f.ids⟩
theorem rst_told (text:Json.Part -> List UInt8) (b:List UInt8):∀ r,Ses.Told (Ses.rst text b r)
 | 0=>fun h=>by cases h
 | r + 1=>Ses.told_run text none 16 _ (rst_told text b r)
section
variable {text:Json.Part -> List UInt8} {b:List UInt8} {n m:Nat} {r:Nat -> Nat} {g:Ga}
theorem Runs.ready (R:Runs text b n r g) (K:∀ j,j < n -> Ses.Rok text b m (r j)) (j:Nat) (hj:j < n):g.readyAt j=decide (16 * r j < m):=by
 unfold Ga.readyAt;rw [R.at_ j hj];exact (K j hj).ready
theorem Runs.turn (R : Runs text b n r g) (hl : g.slots.length = g.n) (K : ∀ j, j < n → Ses.Rok text b m (r j)) (i : Nat) (hn : g.next = some i) :
  i < n /\ 16 * r i < m /\ g.slots[i]? = some (some (Ses.rst text b (r i))) /\ (Ses.rst text b (r i)).run text (some fun z=>g.pu.lets i z.toNat) 16=(Ses.rst text b (r i + 1),min 16 (m - 16 * r i)):=by
 have h1:g.readyAt i=true:=List.find?_some hn;have hi:i < n:=by
  rw [<- R.num,<- hl];rcases Nat.lt_or_ge i g.slots.length with h | h
  ·exact h
  ·unfold Ga.readyAt at h1
   rw [List.getElem?_eq_none h] at h1
   cases h1
 rw [R.ready K i hi] at h1;refine ⟨hi,by simpa using h1,R.at_ i hi,?_⟩;rw [Ses.run_calm text 700 (fun z=>g.pu.lets i z.toNat) (fun z hz=>lets_few g.pu i z hz) 16 _ (K i hi).calm];exact Prod.ext rfl (K i hi).many
theorem Runs.idle {T:Esc.Tabs} {N:Nat} (R:Runs text b n r g) (o:g.Ok T N) (K:∀ j,j < n -> Ses.Rok text b m (r j)) (hn:g.next=none) (j:Nat) (hj:j < n):m <= 16 * r j:=by
 have h1:=List.find?_eq_none.1 hn j (o.turnsLive j _ (R.at_ j hj));rw [R.ready K j hj] at h1;simpa using h1
theorem Runs.on (R:Runs text b n r g) (hl:g.slots.length=g.n) (g':Ga) (i:Nat) (hi:i < n) (hs:g'.slots=g.slots.set i (some (Ses.rst text b (r i + 1)))) (hn:g'.n=g.n) (hids:g'.ids=g.ids):Runs text b n (upd r i (r i + 1)) g':=by
 refine ⟨hn.trans R.num,fun j hj=>?_,fun j hj=>by rw [hids];exact R.ids j hj⟩;rw [hs];by_cases hij:i=j
 ·subst hij
  rw [List.getElem?_set_self (by rw [hl,R.num];exact hi),upd_self]
 ·rw [List.getElem?_set_ne hij,upd_other r i _ j (fun e=>hij e.symm)]
  exact R.at_ j hj
end
end Gate
end
end Go.Proofs.YtjfblahlkjopcaaGreat
