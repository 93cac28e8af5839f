/- Texts of the walk, joined. -/
import Derived.Test.YtcjflgmcjfcodaaGreatM08
import Derived.Test.YtcjflgmcjfcodaaGreatM37
import Derived.BigQuiet
import Derived.Deep.QuietTactic
import Derived.Maps.RangeWalk
import Derived.RegionTactic
import Derived.Sort.OwnSortedInts
set_option maxRecDepth 100000
set_option maxHeartbeats 8000000
namespace Go.Proofs.Tryz end Go.Proofs.Tryz
namespace Go.Proofs.YtcjflgmcjfcodaaGreat
open Go.Proofs.Tryz
section
open Go.RowKit Go.Maps Go.Sort Go.Proofs
namespace Timer
def late (now:Nat) (r:Rec):Bool:=decide (30 < (now:Int) - r.active) || (decide (0 < r.limit) && decide (r.limit < (now:Int) - r.begun))
def cF (now:Nat) (es:Ents):List Nat:=(es.filter fun e=>late now e.2.2).map Prod.fst
def stay (now:Nat) (es:Ents):Ents:=es.filter fun e=>!late now e.2.2
def srt (l:List Nat):List Nat:=l.mergeSort fun x y=>decide (x <= y)
def dS (l:List Nat):List Value:=l.map fun k:Nat=>Value.int .i64 (k:Int)
theorem len_le:∀ (b:Nat) (l:List Nat),l.Nodup -> (∀ k ∈ l,k < b) -> l.length <= b
 | 0,l,_,h=>by
  cases l with
  | nil=>exact Nat.le_refl _
  | cons x l=>exact absurd (h x mcs) (by omega)
 | b + 1,l,hn,h=>by
  by_cases hb:b ∈ l
  ·have h1:=len_le b (l.erase b) (hn.erase b) (fun k hk=>by
    have h2:=h k (List.mem_of_mem_erase hk)
    have h3:k ≠ b:=fun e=>hn.not_mem_erase (e ▸ hk)
    omega)
   rw [List.length_erase_of_mem hb] at h1
   omega
  ·have h1:=len_le b l hn (fun k hk=>by
    have h2:=h k hk
    have h3:k ≠ b:=fun e=>hb (e ▸ hk)
    omega)
   omega
theorem fY (l:List Nat):(srt l).Perm l:=List.mergeSort_perm ..
theorem gX (l:List Nat):(srt l).length=l.length:=(fY l).length_eq
theorem aFn {ids L:List Nat} (h:ids.Perm L):(ids.map fun k:Nat=>(k:Int)).mergeSort (fun x y=>decide (x <= y))=(srt L).map fun k:Nat=>(k:Int):=by
 have tr:∀ a b c:Int,decide (a <= b)=true -> decide (b <= c)=true -> decide (a <= c)=true:=fun a b c h1 h2=>by simp only [decide_eq_true_eq] at *;omega
 have to:∀ a b:Int,(decide (a <= b) || decide (b <= a))=true:=fun a b=>by simp only [Bool.or_eq_true,decide_eq_true_eq];omega
 have trN:∀ a b c:Nat,decide (a <= b)=true -> decide (b <= c)=true -> decide (a <= c)=true:=fun a b c h1 h2=>by simp only [decide_eq_true_eq] at *;omega
 have toN:∀ a b:Nat,(decide (a <= b) || decide (b <= a))=true:=fun a b=>by simp only [Bool.or_eq_true,decide_eq_true_eq];omega
 refine List.Perm.eq_of_pairwise (le:=fun a b:Int=>decide (a <= b)=true) (fun a b _ _ h1 h2=>?_) (List.pairwise_mergeSort tr to _) ?_ (((List.mergeSort_perm _ _).trans (h.map _)).trans ((fY L).symm.map _))
 ·simp only [decide_eq_true_eq] at h1 h2;omega
 ·refine List.pairwise_map.2 ((List.pairwise_mergeSort trN toN L).imp fun {a b} h1=>?_)
  simp only [decide_eq_true_eq] at h1 |-;omega
structure Col (now:Nat) (es:Ents) (left:Lit -> Bool) (ids:List Nat):Prop where
 once:ids.Nodup
 mem:∀ k:Nat,k ∈ ids ↔ (∃ e ∈ es,e.1=k /\ late now e.2.2=true) /\ left (.int .i64 (k:Int))=false
section
variable {now:Nat} {es:Ents} {left:Lit -> Bool} {ids:List Nat}
theorem Col.start {D:DataW Unit} (h:aH3 D es):Col now es (has D) []:=by
 refine ⟨List.nodup_nil,fun k=>⟨fun h1=>absurd h1 (by simp),?_⟩⟩;rintro ⟨⟨e,he,hk,_⟩,h2⟩;rw [(h.2 _).2 ⟨e,he,by rw [hk]⟩] at h2
 cases h2
theorem aF7 {k j:Nat} (h:k ≠ j):Lit.sameKey (.int .i64 (k:Int)) (.int .i64 (j:Int))=false:=sameKey_ne (by intro e;simp at e;omega)
theorem zL (k:Nat):Lit.sameKey (.int .i64 (k:Int)) (.int .i64 (k:Int))=true:=by simp [Lit.sameKey]
theorem aAa (ho:(es.map Prod.fst).Nodup) {e f:Nat × Nat × Rec} (he:e ∈ es) (hf:f ∈ es) (h:e.1=f.1):e=f:=by
 induction es with
 | nil=>simp at he
 | cons x l ih =>
  rw [List.map_cons] at ho;have h1:=List.nodup_cons.1 ho;rcases List.mem_cons.1 he with rfl | h2
  ·rcases List.mem_cons.1 hf with rfl | h3
   ·rfl
   ·exact absurd (by rw [h];exact List.mem_map_of_mem h3) h1.1
  ·rcases List.mem_cons.1 hf with rfl | h3
   ·exact absurd (by rw [<- h];exact List.mem_map_of_mem h2) h1.1
   ·exact ih h1.2 h2 h3
theorem Col.late (c : Col now es left ids) {e : Nat × Nat × Rec} (he : e ∈ es) (hl : left (.int .i64 (e.1 : Int)) = true) (h : Timer.late now e.2.2 = true) :
  Col now es (fun z=>left z && !z.sameKey (.int .i64 (e.1:Int))) (ids ++ [e.1]):=by
 have hn:e.1 ∉ ids:=fun h1=>by have:=((c.mem _).1 h1).2;rw [hl] at this;cases this
 refine ⟨List.nodup_append.2 ⟨c.once,by simp,fun a ha b hb=>by simp at hb;subst hb;exact fun e1=>hn (e1 ▸ ha)⟩,fun k=>?_⟩;rw [List.mem_append,List.mem_singleton,c.mem k];by_cases hk:k=e.1
 ·subst hk
  rw [zL];simp only [Bool.not_true,Bool.and_false,or_true,and_true,true_iff];exact ⟨e,he,rfl,h⟩
 ·rw [aF7 hk]
  simp [hk]
theorem Col.not (c : Col now es left ids) (ho : (es.map Prod.fst).Nodup) {e : Nat × Nat × Rec} (he : e ∈ es) (hl : left (.int .i64 (e.1 : Int)) = true) (h : Timer.late now e.2.2 = false) :
  Col now es (fun z=>left z && !z.sameKey (.int .i64 (e.1:Int))) ids:=by
 refine ⟨c.once,fun k=>?_⟩;rw [c.mem k];by_cases hk:k=e.1
 ·subst hk
  rw [hl,zL];simp only [Bool.true_eq_false,and_false,Bool.not_true,Bool.and_false,and_true,false_iff];rintro ⟨f,hf,h1,h2⟩;rw [aAa ho hf he h1,h] at h2
  cases h2
 ·rw [aF7 hk]
  simp
theorem Col.perm (c:Col now es left ids) (ho:(es.map Prod.fst).Nodup) (hl:∀ kl,left kl=false):ids.Perm (cF now es):=by
 refine (List.perm_ext_iff_of_nodup c.once ?_).2 fun k=>?_
 ·exact ho.sublist (List.filter_sublist.map Prod.fst)
 ·rw [c.mem k,hl]
  unfold cF;simp only [and_true,List.mem_map,List.mem_filter];constructor
  ·rintro ⟨e,h1,h2,h3⟩;exact ⟨e,⟨h1,h3⟩,h2⟩
  ·rintro ⟨e,⟨h1,h3⟩,h2⟩;exact ⟨e,h1,h2,h3⟩
theorem aD6 (es:Ents) (a:List Nat):es.filter (fun e=>!(a.contains e.1))=a.foldl gone es:=by
 induction a generalizing es with
 | nil=>simp
 | cons k a ih =>
  rw [List.foldl_cons,<- ih];unfold gone;rw [List.filter_filter];refine List.filter_congr fun e _=>?_
  simp only [List.contains_cons,Bool.not_or];rw [Bool.and_comm]
theorem aJk (ho:(es.map Prod.fst).Nodup) (a:List Nat) (h:a.Perm (cF now es)):a.foldl gone es=stay now es:=by
 rw [<- aD6];unfold stay;refine List.filter_congr fun e he=>?_
 congr 1;rw [Bool.eq_iff_iff];rw [List.contains_iff_mem,h.mem_iff];unfold cF;simp only [List.mem_map,List.mem_filter];constructor
 ·rintro ⟨f,⟨h1,h2⟩,h3⟩
  rw [<- aAa ho h1 he h3];exact h2
 ·intro h1
  exact ⟨e,⟨he,h1⟩,rfl⟩
end
theorem vB (pre spare : List Value) (zs ys : List Int) (hl : ys.length = zs.length) :
  putCells (Value.int .i64) pre.length ys.toArray (pre ++ (zs.map (Value.int .i64) ++ spare)).toArray=(pre ++ (ys.map (Value.int .i64) ++ spare)).toArray:=by
 apply Array.ext
 ·simp [putCells,hl]
 ·intro i h1 h2
  simp only [putCells,Array.getElem_mapIdx,List.getElem_toArray,List.size_toArray];by_cases a:i < pre.length
  ·rw [ifn (by omega),List.getElem_append_left a,List.getElem_append_left a]
  ·by_cases b:i < pre.length + ys.length
   ·rw [ifp ⟨by omega,b⟩,List.getElem_append_right (by omega),List.getElem_append_left (by simp;omega),List.getElem_map]
    congr 1;have:i - pre.length < ys.length:=by omega
    simp [this]
   ·have b1:¬ i - pre.length < zs.length:=by omega
    rw [ifn (by omega)];simp [List.getElem_append,a,b1,hl]
theorem vX {w:World} {g off n:Nat} {os:Array Obj} (d:Array Int):w.grownBy (grow (putRow (Value.int .i64) (Sort.ahead w n) g off d) os) (some g):=by
 refine ⟨rfl,rfl,rfl,by simp,fun k hk hne=>?_⟩;rw [heap_grow_old _ _ (by simpa using hk)];have:g ≠ k:=fun e=>hne (by rw [e])
 simp [putRow,mapBlock,Sort.ahead,Array.getElem?_modify,this]
theorem pS {w : World} {g off n : Nat} {os : Array Obj} {cur : Array Value} {e : TypeId} {fr : Nat × Nat} (d : Array Int) (hb : w.heap[g]? = some (.cells cur e fr)) :
  (grow (putRow (Value.int .i64) (Sort.ahead w n) g off d) os).heap[g]? = some (.cells (putCells (Value.int .i64) off d cur) e fr):=by
 have hg:g < w.heap.size:=(Array.getElem?_eq_some_iff.1 hb).1;rw [heap_grow_old _ _ (by simpa using hg)];simp [putRow,mapBlock,Sort.ahead,Array.getElem?_modify,hb,onCells]
theorem wD {a r : Own.Heap} {u v : World} {b n : Nat} {os : Array Obj} {T : TypeId} {pre spare : List Value} {zs ys : List Int} (hl : ys.length = zs.length)
  (t:Own.aA a (Own.row b T (pre ++ (zs.map (Value.int .i64) ++ spare)) :: r) u v) :
  Own.aA a (Own.row b T (pre ++ (ys.map (Value.int .i64) ++ spare)) :: r) u (grow (putRow (Value.int .i64) (Sort.ahead v n) b pre.length ys.toArray) os):=by
 have hb:=t.has.here _ mcs;have h1:=pS (n:=n) (os:=os) (off:=pre.length) ys.toArray hb;rw [vB pre spare zs ys hl] at h1;exact kT t (vX _) _ h1
theorem zV {a r:Own.Heap} {u v w':World} (t:Own.aA a r u v) (hg:v.grownBy w' none) (hs:v.heap.size < w'.heap.size):∃ oi,w'.heap[v.heap.size]? = some oi /\ Own.aA a ((v.heap.size,oi) :: r) u w':=by
 refine ⟨w'.heap[v.heap.size],Array.getElem?_eq_getElem hs,⟨⟨fun p hp=>?_,?_⟩,⟨hg.os.trans t.keeps.os,hg.tape.trans t.keeps.tape,hg.output.trans t.keeps.output,Nat.le_trans t.keeps.size hg.size,fun i hi hni=>?_⟩,fun i hi=>?_⟩⟩
 ·rcases List.mem_cons.1 hp with rfl | h1
  ·exact Array.getElem?_eq_getElem hs
  ·have h2:=t.has.lt (List.mem_map_of_mem (f:=Prod.fst) h1)
   exact (hg.block p.1 h2 (by simp)).trans (t.has.here p h1)
 ·exact List.nodup_cons.2 ⟨fun h1=>absurd (t.has.lt h1) (Nat.lt_irrefl _),t.has.once⟩
 ·exact (hg.block i (Nat.lt_of_lt_of_le hi t.keeps.size) (by simp)).trans (t.keeps.block i hi hni)
 ·rcases List.mem_cons.1 hi with rfl | h1
  ·exact .inr t.keeps.size
  ·exact t.new i h1
theorem aE3 {a r:Own.Heap} {u v w':World} {b:Nat} {o:Obj} (t:Own.aA a ((b,o) :: r) u v) (hg:v.grownBy w' (some b)):∃ o',w'.heap[b]? = some o' /\ Own.aA a ((b,o') :: r) u w':=by
 have hs:b < w'.heap.size:=Nat.lt_of_lt_of_le (t.has.lt mcs) hg.size;exact ⟨w'.heap[b],Array.getElem?_eq_getElem hs,kT t hg _ (Array.getElem?_eq_getElem hs)⟩
theorem eZ {P : Program} {k : TypeId} {R : Value → Option (DataW Unit × List MemPlace)} {w w' : World} {b r n cnt : Nat} {D : DataW Unit} {left : Lit → Bool} (h : w.ranges P k R b r n D left cnt)
  (hb:w'.heap[b]? = w.heap[b]?) (hr:w'.heap[r]? = w.heap[r]?):w'.ranges P k R b r n D left cnt:=by
 obtain ⟨es,clock,since,seen,c0,h1,F,hs,hD,h2,rest⟩:=h;exact ⟨es,clock,since,seen,c0,hb.trans h1,F,hs,hD,hr.trans h2,rest⟩
theorem aMj {v:Value} {y:DataW Unit × List MemPlace} (h:R v=some y):v = .pointer none \/ ∃ c:Nat,v = .pointer (some ⟨c,0,none⟩) /\ y.1 = .lit (.int .i64 (c:Int)):=by
 unfold R at h;split at h
 ·exact .inl rfl
 ·rename_i c
  refine .inr ⟨c,rfl,?_⟩;rw [<- Option.some.inj h]
 ·cases h
theorem aMs {D : DataW Unit} {es : Ents} (hk : aH3 D es) (ho : (es.map Prod.fst).Nodup) {v : Value} {kl : Lit} {y : DataW Unit × List MemPlace} (hv : R v = some y) (hat : ∀ zd, D.atKey kl zd = y.1) :
  ∃ e ∈ es,kl = .int .i64 (e.1:Int) /\ v = .pointer (some ⟨e.2.1,0,none⟩):=by
 obtain ⟨e,he,rfl⟩:=(hk.2 kl).1 (has_true_of_atKey hat);refine ⟨e,he,rfl,?_⟩;have h1:=hat .nil;rw [hk.1 e.1] at h1;rcases qG es e.1 ho with h2 | ⟨A,c,r,B,h3,hA,hB⟩
 ·exact absurd rfl (h2 e he)
 ·rw [h3,iU A B c r hA] at h1
  have h4:e=(e.1,c,r):=aAa ho he (by rw [h3];simp) rfl;rcases aMj hv with h5 | ⟨c',h5,h6⟩
  ·subst h5
   have:y=(.nil,[]):=(Option.some.inj hv).symm;rw [this] at h1
   cases h1
  ·rw [h6] at h1
   have h7:c=c':=by injection h1 with h8;injection h8 with _ h9;omega
   rw [h5,<- h7,h4]
end Timer
end
section
open Go.RowKit Go.Maps Go.Sort Go.Proofs
namespace Timer
theorem aE2 (x:Int) (kl:Lit) (h:keyOf prog 3 (.int .i64 x)=some kl):kl = .int .i64 x:=by
 obtain ⟨y,h1,h2,_⟩:=Maps.keyOf_int_inv underlying3 h;injection h1 with _ h3
 rw [h2,h3]
section
variable {w:World} {b:Nat} {T:TypeId} {pre post:List Value} {mv:Value} {now n:Nat} {es:Ents} {h:Own.Heap}
theorem aK4 {a R:Own.Heap} {u v:World} (t:Own.aA a (at_ b T pre now mv post :: R) u v) (M:Nat):Own.aA a (at_ b T pre M mv post :: R) u (v.setCell ⟨b,pre.length,none⟩ (.int .i64 (M:Int))):=by
 have t2:=t.set pre.length (.int .i64 (M:Int)) (by simp);have e:(pre ++ (.int .i64 (now:Int) :: mv :: post)).set pre.length (.int .i64 (M:Int))=pre ++ (.int .i64 (M:Int) :: mv :: post):=by
  rw [List.set_append_right _ _ (by omega),Nat.sub_self];rfl
 rw [e] at t2;exact t2
theorem aG5 (a:Option Addr) (w:World):Calls prog 95 #[.slice a 0 0,.int .i64 0,.int .i64 0] w fun e w'=>e = .returned (.tuple #[]) /\ w'=w:=by
 go_enter func95,ntmps95;go_wp2;refine wp_loop_rounds 1 ?_;rw [rounds_succ];go_wp2;go_end0;exact ⟨rfl,rfl⟩
theorem aIw (a:Option Addr) (L:Int) (w:World):Calls prog 78 #[.slice a 0 0,.int .i64 0,.int .i64 0,.int .i64 L] w fun e w'=>e = .returned (.tuple #[]) /\ w'=w:=by
 go_enter func78,ntmps78;go_wp2;refine wp_loop_rounds 1 ?_;rw [rounds_succ];go_wp2_with (fail);refine (aG5 a _).mono ?_;rintro e w1 ⟨rfl,rfl⟩;go_wp2;refine bodyPost_ret (results_none rfl _ _ _) rfl ?_;exact ⟨rfl,rfl⟩
theorem tP (a:Option Addr) (w:World):Calls prog 62 #[.slice a 0 0] w fun e w'=>e = .returned (.tuple #[]) /\ w'=w:=by
 go_enter func62,ntmps62;go_wp2_with (fail);refine (Tryz.bits_Len 0 _ (by decide) (by decide)).mono ?_;rintro e w1 ⟨rfl,rfl⟩;go_wp2_with (fail);refine (aIw a _ _).mono ?_;rintro e w1 ⟨rfl,rfl⟩;go_wp2;go_end0;exact ⟨rfl,rfl⟩
def gV : Prop := ∀ (blk off cap : Nat) (zs : List Int) (w : World), Holds (Value.int .i64) w blk off zs.toArray → blk < w.heap.size → zs.length < 4611686018427387904 →
  Calls prog 62 #[.slice (some ⟨blk,off,none⟩) zs.length cap] w fun e w'=>e = .returned (.tuple #[]) /\
   ∃ n os,w'=grow (putRow (Value.int .i64) (Sort.ahead w n) blk off (zs.mergeSort fun x y=>decide (x <= y)).toArray) os
theorem aIu (S : gV) {ids L : List Nat} (hp : ids.Perm L) {ad : Option Addr} {c : Nat} {ho R : Own.Heap} (hl : ids.length ≤ 1000000) (s : Own.Slc 3 (dS ids) (.slice ad ids.length c) ho) (hw : Own.Has w (ho ++ R)) :
  Calls prog 62 #[.slice ad ids.length c] w fun e w'=>e = .returned (.tuple #[]) /\ ∃ ho',Own.Slc 3 (dS (srt L)) (.slice ad ids.length c) ho' /\ Own.aA (ho ++ R) (ho' ++ R) w w':=by
 have hlen:(srt L).length=ids.length:=(gX L).trans hp.length_eq.symm;generalize hv:Value.slice ad ids.length c=v at s
 cases s with
 | bare a h0 =>
  have h1:ids=[]:=List.map_eq_nil_iff.1 h0;subst h1;injection hv with h2 h3 h4
  subst h2;subst h4;refine (tP ad w).mono ?_;rintro e w' ⟨rfl,rfl⟩;have h6:srt L=[]:=List.eq_nil_of_length_eq_zero hlen;exact ⟨rfl,[],by rw [h6];exact Own.Slc.bare ad rfl,Own.aA.refl hw⟩
 | row b0 pre0 spare hm =>
  injection hv with h2 h3 h4
  subst h2;subst h4;have hz:(ids.map fun k:Nat=>(k:Int)).length=ids.length:=List.length_map ..;have hn:dS ids=(ids.map fun k:Nat=>(k:Int)).map (Value.int .i64):=by unfold dS;rw [List.map_map];rfl
  have hn2:dS (srt L)=((srt L).map fun k:Nat=>(k:Int)).map (Value.int .i64):=by unfold dS;rw [List.map_map];rfl
  have hb:b0 < w.heap.size:=hw.lt (by simp [Own.blocks,Own.row])
  have hS:=S b0 pre0.length ((dS ids).length + spare.length) (ids.map fun k:Nat=>(k:Int)) w (fun j hj=>by
   have hj':j < ids.length:=by simpa using hj
   refine ⟨?_,hw.free b0 3 _ (List.mem_append_left _ msr) _⟩;refine hw.cell b0 3 _ (List.mem_append_left _ msr) _ _ ?_;rw [List.getElem?_append_right (by omega),Nat.add_sub_cancel_left,List.getElem?_append_left (by simpa [dS] using hj'),hn]
   simp [hj']) hb (by rw [hz];omega)
  rw [hz,aFn hp] at hS;obtain ⟨Y,hY⟩:∃ Y,Y=srt L:=⟨_,rfl⟩;rw [<- hY] at hS hlen hn2 |-;clear hY;have hq2:(dS ids).length=ids.length:=by unfold dS;rw [List.length_map]
  rw [hq2] at hS |-;refine hS.mono fun e w' hh=>?_
  obtain ⟨h1,n,os,h2⟩:=hh;rw [h2];refine ⟨h1,?_⟩;clear h1 h2;have hys:((Y).map fun k:Nat=>(k:Int)).length=(ids.map fun k:Nat=>(k:Int)).length:=by rw [List.length_map,List.length_map,hlen]
  have t0:Own.aA ([Own.row b0 3 (pre0 ++ (dS ids ++ spare))] ++ R) (Own.row b0 3 (pre0 ++ ((ids.map fun k:Nat=>(k:Int)).map (Value.int .i64) ++ spare)) :: R) w w:=by
   rw [<- hn];exact Own.aA.refl hw
  have t1:=wD (n:=n) (os:=os) hys t0;rw [<- hn2] at t1;have hs:=Own.Slc.row (e:=3) (xs:=dS (Y)) b0 pre0 spare (by rw [show (dS (Y)).length=(dS ids).length by unfold dS;rw [List.length_map,List.length_map,hlen]];exact hm);have hq:(dS (Y)).length=ids.length:=by unfold dS;rw [List.length_map,hlen]
  rw [hq] at hs;exact ⟨_,hs,t1⟩
end
end Timer
end
section
open Go.RowKit Go.Maps Go.Sort Go.Proofs
namespace Timer
theorem zX {e : TypeId} {xs : List Value} {v : Value} {h : Own.Heap} (s : Own.Slc e xs v h) (hn : 0 < xs.length) :
  ∃ hb pre spare,v = .slice (some ⟨hb,pre.length,none⟩) xs.length (xs.length + spare.length) /\ h=[Own.row hb e (pre ++ (xs ++ spare))] /\ xs.length + spare.length <= maxLen:=by
 cases s with
 | bare a h0=>subst h0;simp at hn
 | row hb pre spare hm=>exact ⟨hb,pre,spare,rfl,rfl,hm⟩
theorem aHh {es:Ents} {e:Nat × Nat × Rec} (h:e ∈ es):Own.row e.2.1 92 e.2.2.cells ∈ rows es:=List.mem_map_of_mem (f:=fun e:Nat × Nat × Rec=>Own.row e.2.1 92 e.2.2.cells) h
theorem underMap:prog.underlying 49=some (.map 3 90):=by kernel_rfl
theorem yV (p:Nat × Nat × Rec -> Bool) (es:Ents):(rows es).Perm (rows (es.filter p) ++ rows (es.filter fun e=>!p e)):=by
 unfold rows;rw [<- List.map_append];exact ((List.filter_append_perm p es).symm).map _
section
variable {w:World} {b:Nat} {T:TypeId} {pre post:List Value} {mv:Value} {now n:Nat} {es:Ents} {h:Own.Heap}
theorem aEx (S : gV) (mb : Nat) (o : Obj) (ho : kY o n es) (hk : Own.Has w (at_ b T pre now (.map (some mb)) post :: (mb, o) :: rows es)) (P : Nat) (hP : P = pre.length) (hn : now ≤ 1000000) (hes : ∀ e ∈ es, e.1 ≤ 1000 ∧ fG now e.2.2) (hone : (es.map Prod.fst).Nodup) :
  Calls prog 38 #[.pointer (some ⟨b,P,none⟩)] w fun e w'=>∃ ad c ho' h',e = .returned (.slice ad (cF (now + 1) es).length c) /\
   Own.Slc 3 (dS (srt (cF (now + 1) es))) (.slice ad (cF (now + 1) es).length c) ho' /\ Map n (stay (now + 1) es) (.map (some mb)) h' /\
   Own.aA (at_ b T pre now (.map (some mb)) post :: (mb,o) :: rows es) (ho' ++ (at_ b T pre (now + 1) (.map (some mb)) post :: h')) w w':=by
 obtain ⟨M,hM⟩:∃ M,M=now + 1:=⟨_,rfl⟩;rw [<- hM];have c0:=cell0 hk mcs;have f0:=hk.free b T _ mcs pre.length;have T1:=hhh (aK4 (Own.aA.refl hk) M);have d1:=cU T1.o.has mcs;rw [<- hP] at c0 f0 d1 T1;have hw0:IntKind.i64.wrap ((now:Int) + 1)=(M:Int):=by rw [IntKind.wrap_i64];omega
 obtain ⟨D,hD,hown⟩:=ho;have HD:=hhh (ai hD hown);have HE:=hhh (ai hes (ai hone (ai hM (ai hn hP))));have HR:=hhh (hown _ mb (T1.o.has.here (mb,o) (mcm _ mcs)));obtain ⟨i0,hi,hz0,hz1,hz2⟩:=info_parts (P:=prog) (e:=3) (z:=.int .i64 0) (size:=1) (bytes:=8) (by kernel_rfl);have Hi:=hhh (ai hi (ai hz0 (ai hz1 hz2)));clear hi hz0 hz1 hz2 hk hD hown hes hone hM hn hP;go_enter func38,ntmps38
 go_wp2_with (first
  | (at_range;refine wpList_range_own _ rfl _ 49 rfl 3 90 law underMap R mb n D rfl HR.o ?_;intro w0 hrg0 hg0 hs0)
  | go_in)
 have HT0:=hhh (zV T1.o hg0 (by rw [hs0];exact Nat.lt_succ_self _));obtain ⟨rb,hrb⟩:∃ rb,rb=(w.setCell ⟨b,P,none⟩ (.int .i64 (M:Int))).heap.size:=⟨_,rfl⟩;rw [<- hrb] at hrg0 HT0 |-;clear hs0 hg0 hrb d1
 go_frame
 go_loopw [3] (fun v wr => ∃ (left : Lit → Bool) (cnt : Nat) (ids : List Nat) (m : Nat) (ad : Option Addr) (c : Nat) (ho : Own.Heap) (oi : Obj), v = .slice ad m c ∧ m = ids.length ∧ wr.ranges prog 3 R mb rb n D left cnt ∧
   Own.Slc 3 (dS ids) (.slice ad m c) ho /\ Own.aA (at_ b T pre now (.map (some mb)) post :: (mb,o) :: rows es) (ho ++ ((rb,oi) :: at_ b T pre M (.map (some mb)) post :: (mb,o) :: rows es)) w wr /\ Col M es left ids /\ ∀ k ∈ ids,k <= 1000)
  (fun _ wr=>wr.rangeLeft mb rb)
 case atStart =>
  obtain ⟨oi,_,ht⟩:=HT0.o;exact ⟨_,_,[],0,none,0,[],oi,rfl,rfl,hrg0,Own.Slc.bare none rfl,ht,Col.start HD.o.1,by simp⟩
 case round =>
  obtain ⟨left,cnt,ids,m,ad,c,ho,oi,rfl,hm,hrg,hs,ht,hc,hids⟩:=hrel;have HS:=hhh (ai hs (ai ht (ai hc (ai hids hm))));clear hs ht hc hids hm
  go_wp2_with (first
   | (at_next;refine wpList_next_ranges _ rfl _ rfl 3 law R (Value.int .i64) (fun v:Value=>v) (fun key kl hk=>by obtain ⟨x,hx,_⟩:=Maps.keyOf_int_inv underlying3 hk;exact ⟨x,hx⟩) (fun v y _=>⟨v,rfl⟩) mb rb n D left cnt rfl hrg ?_ ?_)
   | go_in)
  ·intro hc0 hl0
   have hm:=HS.o.2.2.2.2;subst hm;have hp:=HS.o.2.2.1.perm HE.o.2.1 hl0;have hml:ids.length <= 1000000:=by
    have h1:=len_le 1001 ids HS.o.2.2.1.once (fun k hk=>by have:=HS.o.2.2.2.1 k hk;omega);omega
   have HSo:=hhh (aIu S hp hml HS.o.1 HS.o.2.1.has);have HP:=hhh hp;have HLs:=hhh (show ∀ k ∈ srt (cF M es),k <= 1000 from fun k hk=>HS.o.2.2.2.1 k (hp.mem_iff.2 ((fY _).mem_iff.1 hk)));have hK:(cF M es).length=ids.length:=hp.length_eq.symm;have hKs:(srt (cF M es)).length=ids.length:=(gX _).trans hK;have HK:=hhh (ai hK hKs);clear hp hrg hK hKs;go_wp2_with (fail);refine HSo.o.mono ?_;rintro e w1 ⟨rfl,ho1,hs1,t1⟩;have HS1:=hhh (ai hs1 (HS.o.2.1.trans t1));clear hs1 t1 HSo;go_wp2
   go_loopw [68] (fun i wr=>∃ (j:Nat) (o':Obj),i = .int .i64 j /\ j <= ids.length /\ kY o' n (((srt (cF M es)).take j).foldl gone es) /\
    Own.aA (at_ b T pre now (.map (some mb)) post :: (mb,o) :: rows es) (ho1 ++ ((rb,oi) :: at_ b T pre M (.map (some mb)) post :: (mb,o') :: rows es)) w wr) (fun i _=>ids.length - (intOf i).toNat)
   case atStart=>exact ⟨0,o,rfl,by omega,⟨D,HD.o.1,HD.o.2⟩,HS1.o.2⟩
   case round =>
    obtain ⟨j,o',rfl,hj,ho',ht⟩:=hrel;by_cases hjk:j < ids.length
    ·have hjI:(j:Int) < (ids.length:Int):=by omega
     have hjs:j < (srt (cF M es)).length:=by rw [HK.o.2];exact hjk
     obtain ⟨y,hy⟩:∃ y,y=(srt (cF M es))[j]'hjs:=⟨_,rfl⟩;have hyk:y <= 1000:=HLs.o y (by rw [hy];exact List.getElem_mem hjs);have hs2:=HS1.o.1;have hnl:(dS (srt (cF M es))).length=ids.length:=by unfold dS;rw [List.length_map];exact HK.o.2
     obtain ⟨hb,p1,spare,hv1,hv2,_⟩:=zX hs2 (by rw [hnl];omega);injection hv1 with ha1 ha2 ha3
     subst ha1;have hcell:wr.cell? ⟨hb,p1.length + j,none⟩=some (.int .i64 (y:Int)):=by
      refine ht.has.cell hb 3 (p1 ++ (dS (srt (cF M es)) ++ spare)) (by rw [hv2];simp) (p1.length + j) _ ?_;rw [List.getElem?_append_right (by omega),Nat.add_sub_cancel_left,List.getElem?_append_left (by rw [hnl];exact hjk),hy];simp [dS,hjs]
     have e1:=cU ht.has (List.mem_append_right _ (mcm _ mcs));rw [<- HE.o.2.2.2.2] at e1;obtain ⟨w',o2,hrun,hb',ho2,hg⟩:=xO ho' (ht.has.here (mb,o') (by simp)) y (by omega) 0
     have t2:=kT (ht.perm (List.Perm.refl _) (show (ho1 ++ ((rb,oi) :: at_ b T pre M (.map (some mb)) post :: (mb,o') :: rows es)).Perm ((mb,o') :: (ho1 ++ ((rb,oi) :: at_ b T pre M (.map (some mb)) post :: rows es))) by
      refine Own.aE _ _ fun x=>?_
      simp only [List.count_append,List.count_cons]
      omega)) hg o2 hb'
     have T2:=hhh (t2.perm (List.Perm.refl _) (show ((mb,o2) :: (ho1 ++ ((rb,oi) :: at_ b T pre M (.map (some mb)) post :: rows es))).Perm (ho1 ++ ((rb,oi) :: at_ b T pre M (.map (some mb)) post :: (mb,o2) :: rows es)) by
      refine Own.aE _ _ fun x=>?_
      simp only [List.count_append,List.count_cons]
      omega))
     have HG:=hhh (show ((srt (cF M es)).take (j + 1)).foldl gone es=gone (((srt (cF M es)).take j).foldl gone es) y by
      rw [List.take_succ_eq_append_getElem hjs,List.foldl_append,<- hy];rfl)
     have HO2:=hhh ho2;clear ho2 hg hb' t2 ho' ht hs2 hv2 ha2 ha3 hy hnl;go_wp2;go_roundw
     case rel=>exact ⟨j + 1,o2,by go_num,by omega,by rw [HG.o];exact HO2.o,T2.o⟩
     case measure=>simp [intOf];omega
    ·have hjK:j=ids.length:=by omega
     have hjI:¬ (j:Int) < (ids.length:Int):=by omega
     rw [List.take_of_length_le (by rw [HK.o.2];omega),aJk HE.o.2.1 _ (fY _)] at ho';have HO:=hhh ho'
     have T9:=hhh (Own.aA.drop (c:=(rb,oi) :: rows (es.filter fun e=>late M e.2.2)) (ht.perm (List.Perm.refl _) (show (ho1 ++ ((rb,oi) :: at_ b T pre M (.map (some mb)) post :: (mb,o') :: rows es)).Perm ((ho1 ++ (at_ b T pre M (.map (some mb)) post :: (mb,o') :: rows (stay M es))) ++ ((rb,oi) :: rows (es.filter fun e=>late M e.2.2))) by
      refine ((List.Perm.refl ho1).append ((((yV (fun e=>late M e.2.2) es).cons _).cons _).cons _)).trans ?_;refine Own.aE _ _ fun x=>?_
      unfold stay;simp only [List.count_append,List.count_cons]
      omega)))
     clear ho' ht;go_wp2;go_ret;rw [HK.o.1];exact ⟨ad,c,rfl,ho1,HS1.o.1,_,Map.some mb o' HO.o,T9.o⟩
  ·intro x c2 kl yd yp w2 cnt2 hkey hlk hv hat hrg2 hlt hg2 hs2w hen
   obtain ⟨e,he,hkl,rfl⟩:=aMs HD.o.1 HE.o.2.1 hv hat;subst hkl;have hx:(e.1:Int)=x:=by
    have:=aE2 x _ hkey;simpa using this
   subst hx;have HMm:=hhh HS.o.2.2.2.2;obtain ⟨oi2,_,ht2⟩:=aE3 (HS.o.2.1.perm (List.Perm.refl _) (List.perm_middle (l₁:=ho))) hg2;have HT2:=hhh (ht2.perm (List.Perm.refl _) (List.perm_middle (l₁:=ho)).symm);have hR:Own.Has w2 ((rb,oi2) :: at_ b T pre M (.map (some mb)) post :: (mb,o) :: rows es):=HT2.o.has.right;have e0:=cell0 hR (mcm _ mcs);rw [<- HE.o.2.2.2.2] at e0;have hrow:Own.row e.2.1 92 e.2.2.cells ∈ ((rb,oi2) :: at_ b T pre M (.map (some mb)) post :: (mb,o) :: rows es):=mcm _ (mcm _ (mcm _ (aHh he)));have k0:w2.cell? ⟨e.2.1,0,none⟩=some (.int .i64 e.2.2.limit):=hR.cell e.2.1 _ _ hrow 0 _ rfl;have k1:w2.cell? ⟨e.2.1,1,none⟩=some (.int .i64 e.2.2.begun):=hR.cell e.2.1 _ _ hrow 1 _ rfl;have k2:w2.cell? ⟨e.2.1,2,none⟩=some (.int .i64 e.2.2.active):=hR.cell e.2.1 _ _ hrow 2 _ rfl;have htm:=(HE.o.1 e he).2;have hid:=(HE.o.1 e he).1;have HM3:=HE.o.2.2.1;have HN3:=HE.o.2.2.2.1;have HL:=hhh (show late M e.2.2=(decide (30 < (M:Int) - e.2.2.active) || (decide (0 < e.2.2.limit) && decide (e.2.2.limit < (M:Int) - e.2.2.begun))) from rfl)
   have HC:=hhh (show (late M e.2.2=true -> Col M es (fun z=>left z && !z.sameKey (.int .i64 (e.1:Int))) (ids ++ [e.1])) /\ (late M e.2.2=false -> Col M es (fun z=>left z && !z.sameKey (.int .i64 (e.1:Int))) ids) from
    ⟨fun h1=>HS.o.2.2.1.late he hlk h1,fun h1=>HS.o.2.2.1.not HE.o.2.1 he hlk h1⟩)
   have hml:m <= 1001:=by
    have h1:=HMm.o ▸ len_le 1001 ids HS.o.2.2.1.once (fun k hk=>by have:=HS.o.2.2.2.1 k hk;omega);omega
   have HR2:=hhh hrg2;have HLt:=hhh (show wr.rangeLeft mb rb=cnt from hrg.left_eq);obtain ⟨id,bb,L,B,A⟩:=e;simp only at k0 k1 k2 hid hen;replace htm:0 <= B /\ B <= (now:Int) /\ 0 <= A /\ A <= (now:Int):=htm;replace HL:=hhh (show late M ⟨L,B,A⟩=(decide (30 < (M:Int) - A) || (decide (0 < L) && decide (L < (M:Int) - B))) from HL.o);replace HC:=hhh (show (late M ⟨L,B,A⟩=true -> Col M es (fun z=>left z && !z.sameKey (.int .i64 (id:Int))) (ids ++ [id])) /\ (late M ⟨L,B,A⟩=false -> Col M es (fun z=>left z && !z.sameKey (.int .i64 (id:Int))) ids) from HC.o);replace HR2:=hhh (show w2.ranges prog 3 R mb rb n D (fun z=>left z && !z.sameKey (.int .i64 (id:Int))) cnt2 from HR2.o);generalize late M ⟨L,B,A⟩=LT at HL HC;have hs1:IntKind.i64.wrap ((M:Int) - A)=(M:Int) - A:=by rw [IntKind.wrap_i64];omega
   have hs2:IntKind.i64.wrap ((M:Int) - B)=(M:Int) - B:=by rw [IntKind.wrap_i64];omega
   clear hrg2 hrg hkey hlk hat hv hg2 hs2w he hrow hR ht2;by_cases g1:30 < (M:Int) - A
   ·have hl:LT=true:=by rw [HL.o];simp [g1]
    have HC2:=hhh (HC.o.1 hl);clear HC HL hl htm HM3 HN3;go_wp2_with (fail);go_quiet (fail);go_wp2_with (at_builtin;go_loud (refine Own.aX rfl _ _ 34 rfl 3 i0 (.int .i64 0) 8 underlying34 Hi.o.1 Hi.o.2.1 Hi.o.2.2.1 Hi.o.2.2.2 rfl (.slice ad m c) (dS ids) m ((List.length_map ..).trans HMm.o.symm) ho ((rb,oi2) :: at_ b T pre M (.map (some mb)) post :: (mb,o) :: rows es) rfl HS.o.1 (HT2.o.drewN _).has (.int .i64 (id:Int)) rfl rfl ?c1 ?c2 ?_))
    case c1=>simp only [maxLen];omega
    case c2=>omega
    intro ad' c' h' w3 hs' ht';have HT3:=hhh ((HT2.o.drewN _).trans ht');have HR3:=hhh (eZ HR2.o ((HT3.o.has.here (mb,o) (by simp)).trans (HT2.o.has.here (mb,o) (by simp)).symm) ((HT3.o.has.here (rb,oi2) (by simp)).trans (HT2.o.has.here (rb,oi2) (by simp)).symm));have HS3:=hhh hs';clear hs' ht';go_wp2;go_roundw
    case rel =>
     refine ⟨_,cnt2,ids ++ [id],m + 1,ad',c',h',oi2,rfl,by rw [lla,<- HMm.o];rfl,HR3.o,?_,HT3.o,HC2.o,fun k hk=>?_⟩
     ·have:dS (ids ++ [id])=dS ids ++ [.int .i64 (id:Int)]:=by simp [dS]
      rw [this];exact HS3.o
     ·rcases List.mem_append.1 hk with h1 | h1
      ·exact HS.o.2.2.2.1 k h1
      ·rw [List.mem_singleton.1 h1];exact hid
    case measure=>rw [HR3.o.left_eq,HLt.o];exact hlt
   ·have g1d:decide (30 < (M:Int) - A)=false:=decide_eq_false g1
    by_cases g2:0 < L
    ·by_cases g3:L < (M:Int) - B
     ·have hl:LT=true:=by rw [HL.o];simp [g1,g2,g3]
      have HC2:=hhh (HC.o.1 hl);clear HC HL hl htm HM3 HN3;go_wp2_with (fail);go_quiet (fail);go_wp2_with (at_builtin;go_loud (refine Own.aX rfl _ _ 34 rfl 3 i0 (.int .i64 0) 8 underlying34 Hi.o.1 Hi.o.2.1 Hi.o.2.2.1 Hi.o.2.2.2 rfl (.slice ad m c) (dS ids) m ((List.length_map ..).trans HMm.o.symm) ho ((rb,oi2) :: at_ b T pre M (.map (some mb)) post :: (mb,o) :: rows es) rfl HS.o.1 (HT2.o.drewN _).has (.int .i64 (id:Int)) rfl rfl ?c1 ?c2 ?_))
      case c1=>simp only [maxLen];omega
      case c2=>omega
      intro ad' c' h' w3 hs' ht';have HT3:=hhh ((HT2.o.drewN _).trans ht');have HR3:=hhh (eZ HR2.o ((HT3.o.has.here (mb,o) (by simp)).trans (HT2.o.has.here (mb,o) (by simp)).symm) ((HT3.o.has.here (rb,oi2) (by simp)).trans (HT2.o.has.here (rb,oi2) (by simp)).symm));have HS3:=hhh hs';clear hs' ht';go_wp2;go_roundw
      case rel =>
       refine ⟨_,cnt2,ids ++ [id],m + 1,ad',c',h',oi2,rfl,by rw [lla,<- HMm.o];rfl,HR3.o,?_,HT3.o,HC2.o,fun k hk=>?_⟩
       ·have:dS (ids ++ [id])=dS ids ++ [.int .i64 (id:Int)]:=by simp [dS]
        rw [this];exact HS3.o
       ·rcases List.mem_append.1 hk with h1 | h1
        ·exact HS.o.2.2.2.1 k h1
        ·rw [List.mem_singleton.1 h1];exact hid
      case measure=>rw [HR3.o.left_eq,HLt.o];exact hlt
     ·have g3d:decide (L < (M:Int) - B)=false:=decide_eq_false g3
      have hl:LT=false:=by rw [HL.o];simp [g1,g3]
      have HC2:=hhh (HC.o.2 hl);clear HC HL hl htm HM3 HN3;go_wp2_with (fail);go_quiet (fail);go_wp2;go_roundw
      case rel=>exact ⟨_,cnt2,ids,m,ad,c,ho,oi2,rfl,HMm.o,eZ HR2.o rfl rfl,HS.o.1,HT2.o.drewN _,HC2.o,HS.o.2.2.2.1⟩
      case measure=>rw [(eZ (w':=World.drewN w2 _) HR2.o rfl rfl).left_eq,HLt.o];exact hlt
    ·have g2d:decide (0 < L)=false:=decide_eq_false g2
     have hl:LT=false:=by rw [HL.o];simp [g1,g2]
     have HC2:=hhh (HC.o.2 hl);clear HC HL hl htm HM3 HN3;go_wp2_with (fail);go_quiet (fail);go_wp2;go_roundw
     case rel=>exact ⟨_,cnt2,ids,m,ad,c,ho,oi2,rfl,HMm.o,eZ HR2.o rfl rfl,HS.o.1,HT2.o.drewN _,HC2.o,HS.o.2.2.2.1⟩
     case measure=>rw [(eZ (w':=World.drewN w2 _) HR2.o rfl rfl).left_eq,HLt.o];exact hlt
theorem aG6 (hk : Own.Has w (at_ b T pre now (.map none) post :: [])) (P : Nat) (hP : P = pre.length) (hn : now ≤ 1000000) :
  Calls prog 38 #[.pointer (some ⟨b,P,none⟩)] w fun e w'=>e = .returned (.slice none 0 0) /\
   Own.aA (at_ b T pre now (.map none) post :: []) (at_ b T pre (now + 1) (.map none) post :: []) w w':=by
 obtain ⟨M,hM⟩:∃ M,M=now + 1:=⟨_,rfl⟩;rw [<- hM];have c0:=cell0 hk mcs;have f0:=hk.free b T _ mcs pre.length;have T1:=hhh (aK4 (Own.aA.refl hk) M);have d1:=cU T1.o.has mcs;rw [<- hP] at c0 f0 d1 T1;have hw0:IntKind.i64.wrap ((now:Int) + 1)=(M:Int):=by rw [IntKind.wrap_i64];omega
 have e9:(w.setCell ⟨b,P,none⟩ (.int .i64 (M:Int))).heap.size=w.heap.size:=by simp
 have hrg:=run_range_nilMap (P:=prog) (w.setCell ⟨b,P,none⟩ (.int .i64 (M:Int))) 49 3 90 underMap;have hnx:∀ ty,(Instr.next (.pointer (some ⟨(w.setCell ⟨b,P,none⟩ (.int .i64 (M:Int))).heap.size,0,none⟩)) false ty).run prog ((w.setCell ⟨b,P,none⟩ (.int .i64 (M:Int))).alloc (.mapIter none 0 #[] 0))=_:=fun ty=>run_next_nilMap (w.setCell ⟨b,P,none⟩ (.int .i64 (M:Int))) ty 0 0 #[]
 simp only [e9] at hrg hnx;have HSo:=hhh (fun W=>tP none W);clear hk hn hP hM;go_enter func38,ntmps38;go_wp2;refine wp_loop_rounds 1 ?_;rw [rounds_succ];go_wp2_with (fail);refine (HSo.o _).mono ?_;rintro e w1 ⟨rfl,rfl⟩;have T2:=hhh (T1.o.aD (.mapIter none 0 #[] 0));clear HSo hrg hnx e9;go_wp2;refine wp_loop_rounds 1 ?_;rw [rounds_succ];go_wp2;go_ret;exact ⟨rfl,T2.o⟩
theorem aIq (S : gV) (hk : Own.Has w (at_ b T pre now mv post :: h)) (m : Map n es mv h) (P : Nat) (hP : P = pre.length) (hn : now ≤ 1000000) (hes : ∀ e ∈ es, e.1 ≤ 1000 ∧ fG now e.2.2) (hone : (es.map Prod.fst).Nodup) :
  Calls prog 38 #[.pointer (some ⟨b,P,none⟩)] w fun e w'=>∃ ad c ho' h',e = .returned (.slice ad (cF (now + 1) es).length c) /\
   Own.Slc 3 (dS (srt (cF (now + 1) es))) (.slice ad (cF (now + 1) es).length c) ho' /\ Map n (stay (now + 1) es) mv h' /\
   Own.aA (at_ b T pre now mv post :: h) (ho' ++ (at_ b T pre (now + 1) mv post :: h')) w w':=by
 cases m with
 | none h0 =>
  subst h0;refine (aG6 hk P hP hn).mono ?_;rintro e w' ⟨rfl,t⟩;exact ⟨none,0,[],[],rfl,by show Own.Slc _ (dS (srt [])) _ _;rw [show srt []=[] from List.eq_nil_of_length_eq_zero (gX [])];exact Own.Slc.bare none rfl,Map.none rfl,t⟩
 | some mb o ho=>exact aEx S mb o ho hk P hP hn hes hone
end
end Timer
end
section
open Go.RowKit
namespace Timer
theorem sortSome:gV:=fun blk off cap zs w h1 h2 h3=>Tryz.slices_Sort_int blk off cap zs w h1 h2 h3
end Timer
end
end Go.Proofs.YtcjflgmcjfcodaaGreat
