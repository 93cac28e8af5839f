/- Texts of the walk, joined. -/
import Derived.Test.YtcjflgmcjfcodaaGreatM05
import Derived.BigQuiet
import Derived.Carry
import Derived.Deep.QuietTactic
import Derived.Laws.AppendOwn
import Derived.Maps.OwnSet
import Derived.Maps.Views
import Derived.OpenShut
import Derived.RegionTactic
import Derived.Test.YtcjflgmcjfcodaaGreatProg
set_option maxRecDepth 100000
set_option maxHeartbeats 8000000
namespace Go.Proofs.Tryz end Go.Proofs.Tryz
namespace Go.Proofs.YtcjflgmcjfcodaaGreat
open Go.Proofs.Tryz
section
open Go.RowKit Go.Maps
namespace Timer
structure Rec where
 limit:Int
 begun:Int
 active:Int
abbrev Ents:=List (Nat × Nat × Rec)
def Rec.cells (r:Rec):List Value:=[.int .i64 r.limit,.int .i64 r.begun,.int .i64 r.active]
def rows (es:Ents):Own.Heap:=es.map fun e=>Own.row e.2.1 92 e.2.2.cells
def R (v:Value):Option (DataW Unit × List MemPlace) :=
 match v with
 | .pointer none=>some (.nil,[])
 | .pointer (some ⟨b,0,none⟩)=>some (.lit (.int .i64 (b:Int)),[])
 | _=>none
theorem aL9 {v:Value} {ps:List MemPlace} (h:R v=some (.nil,ps)):v = .pointer none:=by
 unfold R at h;split at h <;> simp_all
theorem aMh {v:Value} {ps:List MemPlace} {b:Nat} (h:R v=some (.lit (.int .i64 (b:Int)),ps)):v = .pointer (some ⟨b,0,none⟩):=by
 unfold R at h;split at h
 ·simp at h
 ·rename_i c
  simp at h;have:c=b:=by omega
  rw [this]
 ·simp at h
def look (es:Ents) (k:Nat):DataW Unit :=
 match es.find? (fun e=>e.1 == k) with
 | some e=>.lit (.int .i64 (e.2.1:Int))
 | none=>.nil
def aH3 (D:DataW Unit) (es:Ents):Prop:=(∀ k:Nat,D.atKey (.int .i64 (k:Int)) .nil=look es k) /\ ∀ kl:Lit,Maps.has D kl=true ↔ ∃ e ∈ es,kl = .int .i64 (e.1:Int)
def kY (o:Obj) (n:Nat) (es:Ents):Prop:=∃ D:DataW Unit,aH3 D es /\ ∀ (w:World) (b:Nat),w.heap[b]? = some o -> w.ownsMap prog 3 R b n D
inductive Map (n:Nat) (es:Ents):Value -> Own.Heap -> Prop where
 | none (h0:es=[]):Map n es (.map none) []
 | some (b:Nat) (o:Obj) (h:kY o n es):Map n es (.map (some b)) ((b,o) :: rows es)
theorem law:Keyed prog 3:=int_keyed underlying3
theorem key (k:Nat) (hk:k <= 1000000):keyOf prog 3 (.int .i64 (k:Int))=some (.int .i64 (k:Int)):=keyOf_int_mk underlying3 (by simp [Lit.wf,IntKind.min,IntKind.max,IntKind.signed,IntKind.bits];omega)
theorem aHy (w:World):(zeroValue 90).run prog w = .ok (.pointer none) w:=by kernel_rfl
section
variable {n k:Nat} {es:Ents} {b:Nat} {o:Obj} {w:World}
theorem uS (h:∀ e ∈ es,e.1 ≠ k):look es k = .nil:=by
 unfold look;rw [List.find?_eq_none.2 (fun e he=>by simpa using h e he)]
theorem iU (A B:Ents) (b:Nat) (r:Rec) (h:∀ e ∈ A,e.1 ≠ k):look (A ++ (k,b,r) :: B) k = .lit (.int .i64 (b:Int)):=by
 unfold look;rw [List.find?_append,List.find?_eq_none.2 (fun e he=>by simpa using h e he)];simp
theorem xI (h : kY o n es) (hb : w.heap[b]? = some o) (k : Nat) (hk : k ≤ 1000000) (hl : look es k = .nil) :
  (Instr.lookup 49 (.map (some b)) (.int .i64 (k:Int)) false).run prog w = .ok (.pointer none) w:=by
 obtain ⟨D,hD,hown⟩:=h;obtain ⟨v,ps,hrun,hv⟩:=(hown w b hb).lookup law underlying49 (aHy w) (zd:=.nil) (zp:=[]) rfl (key k hk);rw [hD.1 k,hl] at hv;rw [aL9 hv] at hrun;exact hrun
theorem pP (h : kY o n es) (hb : w.heap[b]? = some o) (k : Nat) (hk : k ≤ 1000000) (c : Nat) (hl : look es k = .lit (.int .i64 (c : Int))) :
  (Instr.lookup 49 (.map (some b)) (.int .i64 (k:Int)) false).run prog w = .ok (.pointer (some ⟨c,0,none⟩)) w:=by
 obtain ⟨D,hD,hown⟩:=h;obtain ⟨v,ps,hrun,hv⟩:=(hown w b hb).lookup law underlying49 (aHy w) (zd:=.nil) (zp:=[]) rfl (key k hk);rw [hD.1 k,hl] at hv;rw [aMh hv] at hrun;exact hrun
theorem aC9 (k : Nat) (hk : k ≤ 1000000) (w : World) :
  (Instr.lookup 49 (.map none) (.int .i64 (k:Int)) false).run prog w = .ok (.pointer none) w :=
 Maps.look_nil false law underlying49 (aHy w) (key k hk)
theorem run_store (h : kY o n es) (hb : w.heap[b]? = some o) (hn : n < 1000000) (k : Nat) (hk : k ≤ 1000000) (hl : ∀ e ∈ es, e.1 ≠ k) (c : Nat) (r : Rec) :
  ∃ w' o',(Instr.mapUpdate 49 (.map (some b)) (.int .i64 (k:Int)) (.pointer (some ⟨c,0,none⟩))).run prog w = .ok () w' /\
   w'.heap[b]? = some o' /\ kY o' (n + 1) (es ++ [(k,c,r)]) /\ w.grownBy w' (some b):=by
 obtain ⟨D,hD,hown⟩:=h;obtain ⟨w',hrun,hown',hg⟩:=(hown w b hb).update law underlying49 (by unfold maxLen;omega) (key k hk) (val:=.pointer (some ⟨c,0,none⟩)) (d:=.lit (.int .i64 (c:Int))) (ps:=[]) rfl;have hmap:=(hown w b hb).isMap;obtain ⟨es',clock',hb',F',hs',hD'⟩:=hown';refine ⟨w',_,hrun,hb',⟨_,⟨?_,?_⟩,fun v c hc=>⟨es',clock',hc,F',hs',hD'⟩⟩,hg⟩
 ·intro j
  by_cases hj:j=k
  ·subst hj
   rw [atKey_put_same hmap (by trivial),iU es [] c r hl]
  ·rw [atKey_put_other (by intro e;simp at e;omega),hD.1 j]
   unfold look;rw [List.find?_append];have:(k == j)=false:=by simp;omega
   simp [this]
 ·intro kl
  by_cases hk:kl = .int .i64 (k:Int)
  ·subst hk
   rw [has_put_same hmap (by trivial)];exact ⟨fun _=>⟨(k,c,r),by simp,rfl⟩,fun _=>rfl⟩
  ·rw [has_put_other hk,hD.2 kl]
   constructor
   ·rintro ⟨e,he,h⟩
    exact ⟨e,List.mem_append_left _ he,h⟩
   ·rintro ⟨e,he,h⟩
    rcases List.mem_append.1 he with h1 | h1
    ·exact ⟨e,h1,h⟩
    ·rw [List.mem_singleton.1 h1] at h
     exact absurd h hk
theorem made (w:World):kY (.map #[] 0) 0 [] :=
 ⟨.map [],⟨fun _=>rfl,fun kl=>⟨fun h=>by simp [has] at h,fun ⟨e,he,_⟩=>absurd he (by simp)⟩⟩,fun _ _ hb=>⟨#[],0,hb,(by
  obtain ⟨es,clock,h1,h2,_⟩:=World.ownsMap_made w prog 3 R
  rw [heap_alloc_new] at h1
  obtain ⟨rfl,rfl⟩:(#[]:Array MapEntry)=es /\ 0=clock:=by simpa using h1
  exact h2),by simp,rfl⟩⟩
theorem kY.mono (h:kY o n es) {m:Nat} (hm:n <= m):kY o m es:=by
 obtain ⟨D,hD,hown⟩:=h;exact ⟨D,hD,fun w b hb=>(hown w b hb).mono hm⟩
theorem aBa (A B:Ents) (c:Nat) (r r':Rec) (id j:Nat):look (A ++ (id,c,r) :: B) j=look (A ++ (id,c,r') :: B) j:=by
 unfold look;rw [List.find?_append,List.find?_append]
 cases A.find? (fun e=>e.1 == j) with
 | some e=>rfl
 | none =>
  simp only [Option.none_or,List.find?_cons];by_cases hj:(id == j)=true
  ·simp [hj]
  ·simp only [Bool.not_eq_true] at hj;simp [hj]
theorem kY.xC {A B:Ents} {c:Nat} {r:Rec} {id:Nat} (h:kY o n (A ++ (id,c,r) :: B)) (r':Rec):kY o n (A ++ (id,c,r') :: B):=by
 obtain ⟨D,hD,hown⟩:=h;refine ⟨D,⟨fun j=>(hD.1 j).trans (aBa A B c r r' id j),fun kl=>(hD.2 kl).trans ?_⟩,hown⟩;constructor
 ·rintro ⟨e,he,h⟩
  rcases List.mem_append.1 he with h1 | h1
  ·exact ⟨e,List.mem_append_left _ h1,h⟩
  ·rcases List.mem_cons.1 h1 with h2 | h2
   ·subst h2;exact ⟨_,List.mem_append_right _ mcs,h⟩
   ·exact ⟨e,List.mem_append_right _ (mcm _ h2),h⟩
 ·rintro ⟨e,he,h⟩
  rcases List.mem_append.1 he with h1 | h1
  ·exact ⟨e,List.mem_append_left _ h1,h⟩
  ·rcases List.mem_cons.1 h1 with h2 | h2
   ·subst h2;exact ⟨_,List.mem_append_right _ mcs,h⟩
   ·exact ⟨e,List.mem_append_right _ (mcm _ h2),h⟩
theorem aEb {α:Type} (x y z:α) (l:List α):(x :: y :: z :: l).Perm (z :: x :: (l ++ [y])) :=
 ((List.Perm.cons _ (List.Perm.swap _ _ _)).trans (List.Perm.swap _ _ _)).trans (List.Perm.cons _ (List.Perm.cons _ (List.perm_append_comm (l₁:=[y]) (l₂:=l))))
theorem kT {a r:Own.Heap} {u v w':World} (t:Own.aA a ((b,o) :: r) u v) (hg:v.grownBy w' (some b)) (o':Obj) (hb:w'.heap[b]? = some o'):Own.aA a ((b,o') :: r) u w':=by
 have hn:b ∉ Own.blocks r:=(List.nodup_cons.1 t.has.once).1;refine ⟨⟨fun p hp=>?_,t.has.once⟩,⟨hg.os.trans t.keeps.os,hg.tape.trans t.keeps.tape,hg.output.trans t.keeps.output,Nat.le_trans t.keeps.size hg.size,fun i hi hni=>?_⟩,t.new⟩
 ·rcases List.mem_cons.1 hp with rfl | h1
  ·exact hb
  ·have hm:=List.mem_map_of_mem (f:=Prod.fst) h1
   have h2:=t.has.lt (mcm _ hm);exact (hg.block p.1 h2 (fun e=>hn ((show p.1=b by simpa using e) ▸ hm))).trans (t.has.here p (mcm _ h1))
 ·refine (hg.block i (Nat.lt_of_lt_of_le hi t.keeps.size) fun e=>hni ?_).trans (t.keeps.block i hi hni)
  have e2:i=b:=by simpa using e
  subst e2;rcases t.new i mcs with h3 | h3
  ·exact h3
  ·omega
end
end Timer
end
section
open Go.RowKit Go.Maps
namespace Timer
abbrev at_ (b:Nat) (T:TypeId) (pre:List Value) (now:Nat) (mv:Value) (post:List Value):Nat × Obj:=Own.row b T (pre ++ (.int .i64 (now:Int) :: mv :: post))
section
variable {w:World} {b:Nat} {T:TypeId} {pre post:List Value} {mv:Value} {now n:Nat} {es:Ents} {h:Own.Heap}
theorem cell0 {R:Own.Heap} (k:Own.Has w R) (hm:at_ b T pre now mv post ∈ R):w.cell? ⟨b,pre.length,none⟩=some (.int .i64 (now:Int)) :=
 k.cell b T _ hm pre.length _ (by simp)
theorem cU {R:Own.Heap} (k:Own.Has w R) (hm:at_ b T pre now mv post ∈ R):w.cell? ⟨b,pre.length + 1,none⟩=some mv :=
 k.cell b T _ hm (pre.length + 1) _ (by simp)
theorem aMb {a R:Own.Heap} {u v:World} (t:Own.aA a (at_ b T pre now mv post :: R) u v) (mv':Value):Own.aA a (at_ b T pre now mv' post :: R) u (v.setCell ⟨b,pre.length + 1,none⟩ mv'):=by
 have t2:=t.set (pre.length + 1) mv' (by simp);have e:(pre ++ (.int .i64 (now:Int) :: mv :: post)).set (pre.length + 1) mv'=pre ++ (.int .i64 (now:Int) :: mv' :: post):=by
  rw [List.set_append_right _ _ (by omega),Nat.add_sub_cancel_left];rfl
 rw [e] at t2;exact t2
theorem isNil (w:World):(binOp .eql 49 (.map none) (.map none)).run prog w = .ok (.bool true) w:=by kernel_rfl
theorem notNil (w:World) (mb:Nat):(binOp .eql 49 (.map (some mb)) (.map none)).run prog w = .ok (.bool false) w:=by kernel_rfl
theorem nD (hk : Own.Has w (at_ b T pre now mv post :: h)) (m : Map n es mv h) (P : Nat) (hP : P = pre.length) (id L : Nat) (hid : id ≤ 1000) (hL : L ≤ 1000) (hn : n < 1000) (hl : ∀ e ∈ es, e.1 ≠ id) :
  Calls prog 25 #[.pointer (some ⟨b,P,none⟩),.int .i64 (id:Int),.int .i64 (L:Int)] w fun e w'=>e = .returned (.bool true) /\
   ∃ mv' h' c,Map (n + 1) (es ++ [(id,c,⟨L,now,now⟩)]) mv' h' /\ Own.aA (at_ b T pre now mv post :: h) (at_ b T pre now mv' post :: h') w w':=by
 have c0:=cell0 hk mcs;have c1:=cU hk mcs;have f1:=hk.free b T _ mcs (pre.length + 1);rw [<- hP] at c0 c1 f1
 cases m with
 | none h0 =>
  subst h0;have hlook:=aC9 id (by omega) w;have hmm:=@run_makeMap prog;have hisn:=isNil;have t0:=((Own.aA.refl hk).bC w.heap.size rfl (.map #[] 0)).perm (List.Perm.refl _) (List.Perm.swap _ _ _);have d0:=cell0 t0.has mcs;have d1:=cU t0.has mcs;have df:=t0.has.free b T _ mcs (pre.length + 1);have t1:=aMb t0 (.map (some w.heap.size));have t2:=(t1.bC (w.heap.size + 1) (by simp) (.cells #[.int .i64 (L:Int),.int .i64 (now:Int),.int .i64 (now:Int)] 92));have g1:=cU t2.has (mcm _ mcs);replace t2:=t2.drew;obtain ⟨w',o',hrun,hb',ho',hg⟩:=run_store (made w) (t2.has.here (w.heap.size,.map #[] 0) (by simp)) (by omega) id (by omega) (by simp) (w.heap.size + 1) ⟨L,now,now⟩;have T3:=hhh (kT (t2.perm (List.Perm.refl _) (List.perm_append_comm (l₁:=[_,_]) (l₂:=[_]))) hg o' hb');have HM:=hhh ho';clear hg hb' ho';rw [<- hP] at d0 d1 df g1 hrun;clear t0 t1 t2;have HB:=hhh (ai hP (ai hid (ai hL (ai hn hl))));clear hP hn hl hid hL hk;go_enter func25,ntmps25;go_wp2;go_region
  all_goals go_wp2
  all_goals go_ret
  all_goals
   refine ⟨rfl,.map (some w.heap.size),_,w.heap.size + 1,Map.some w.heap.size o' ?_,?_⟩
   ·exact HM.o.mono (by omega)
   ·exact T3.o.perm (List.Perm.refl _) (List.perm_append_comm (l₁:=[_,_]) (l₂:=[_]))
 | some mb o ho =>
  have ob:w.heap[mb]? = some o:=hk.here (mb,o) (mcm _ mcs);have hlook:=xI ho ob id (by omega) (uS hl);have hisn:=fun W=>notNil W mb
  have t2:=((Own.aA.refl hk).bC w.heap.size rfl (.cells #[.int .i64 (L:Int),.int .i64 (now:Int),.int .i64 (now:Int)] 92));have g1:=cU t2.has (mcm _ mcs);replace t2:=t2.drew;obtain ⟨w',o',hrun,hb',ho',hg⟩:=run_store ho (t2.has.here (mb,o) (by simp)) (by omega) id (by omega) hl w.heap.size ⟨L,now,now⟩;have T3:=hhh (kT (t2.perm (List.Perm.refl _) (List.perm_middle (l₁:=[_,_]) (l₂:=rows es))) hg o' hb');have HM:=hhh ho';clear hg hb' ho' t2;rw [<- hP] at g1;have HB:=hhh (ai hP (ai hid (ai hL (ai hn hl))));clear hP hn hl hid hL hk ho ob;go_enter func25,ntmps25;go_wp2;go_region
  all_goals go_wp2
  all_goals go_ret
  all_goals
   refine ⟨rfl,.map (some mb),_,w.heap.size,Map.some mb o' HM.o,?_⟩;refine T3.o.perm (List.Perm.refl _) ?_;rw [show rows (es ++ [(id,w.heap.size,(⟨L,now,now⟩:Rec))])=rows es ++ [Own.row w.heap.size 92 (Rec.cells ⟨L,now,now⟩)] by simp [rows]];exact aEb _ _ _ _
theorem aE1 (A B : Ents) (c : Nat) (r : Rec) (id : Nat) (he : es = A ++ (id, c, r) :: B) (hA : ∀ e ∈ A, e.1 ≠ id) (hid : id ≤ 1000) (hk : Own.Has w (at_ b T pre now mv post :: h)) (m : Map n es mv h) (P : Nat) (hP : P = pre.length) :
  Calls prog 30 #[.pointer (some ⟨b,P,none⟩),.int .i64 (id:Int)] w fun e w'=>e = .returned (.bool true) /\
   ∃ h',Map n (A ++ (id,c,{ r with active:=now }) :: B) mv h' /\ Own.aA (at_ b T pre now mv post :: h) (at_ b T pre now mv post :: h') w w':=by
 have c0:=cell0 hk mcs;have c1:=cU hk mcs;rw [<- hP] at c0 c1;subst he
 cases m with
 | none h0=>simp at h0
 | some mb o ho =>
  have ob:w.heap[mb]? = some o:=hk.here (mb,o) (mcm _ mcs);have hlook:=pP ho ob id (by omega) c (iU A B c r hA);have hr:rows (A ++ (id,c,r) :: B)=rows A ++ Own.row c 92 r.cells :: rows B:=by simp [rows]
  have T1:=Own.aA.setAt (A:=at_ b T pre now (.map (some mb)) post :: (mb,o) :: rows A) (b:=c) (T:=92) (l:=r.cells) (C:=rows B) (by have:=Own.aA.refl hk;rw [hr] at this;exact this) 2 (.int .i64 (now:Int)) (by simp [Rec.cells]);rw [hr] at hk;have ca:=hk.cell c 92 r.cells (by simp) 2 _ rfl;have fa:=hk.free c 92 r.cells (by simp) 2;have T2:=hhh T1;have HM:=hhh (ho.xC { r with active:=(now:Int) });have HH:=hhh (ai hk hr);clear hk ho ob T1 hP hid hA hr;go_enter func30,ntmps30;go_wp2;go_ret;refine ⟨rfl,_,Map.some mb o HM.o,?_⟩;have hr':rows (A ++ (id,c,{ r with active:=(now:Int) }) :: B)=rows A ++ Own.row c 92 ({ r with active:=(now:Int) }:Rec).cells :: rows B:=by simp [rows]
  rw [hr',HH.o.2];exact T2.o
end
end Timer
end
section
open Go.RowKit Go.Maps
namespace Timer
section
variable {w:World} {b:Nat} {T:TypeId} {pre post:List Value} {mv:Value} {now n:Nat} {es:Ents} {h:Own.Heap}
theorem aD0 (A B : Ents) (c : Nat) (r : Rec) (id : Nat) (he : es = A ++ (id, c, r) :: B) (hA : ∀ e ∈ A, e.1 ≠ id) (hid : id ≤ 1000) (L : Nat) (hk : Own.Has w (at_ b T pre now mv post :: h)) (m : Map n es mv h) (P : Nat) (hP : P = pre.length) :
  Calls prog 37 #[.pointer (some ⟨b,P,none⟩),.int .i64 (id:Int),.int .i64 (L:Int)] w fun e w'=>e = .returned (.bool true) /\
   ∃ h',Map n (A ++ (id,c,{ r with limit:=(L:Int) }) :: B) mv h' /\ Own.aA (at_ b T pre now mv post :: h) (at_ b T pre now mv post :: h') w w':=by
 have c0:=cell0 hk mcs;have c1:=cU hk mcs;rw [<- hP] at c0 c1;subst he
 cases m with
 | none h0=>simp at h0
 | some mb o ho =>
  have ob:w.heap[mb]? = some o:=hk.here (mb,o) (mcm _ mcs);have hlook:=pP ho ob id (by omega) c (iU A B c r hA);have hr:rows (A ++ (id,c,r) :: B)=rows A ++ Own.row c 92 r.cells :: rows B:=by simp [rows]
  have T1:=Own.aA.setAt (A:=at_ b T pre now (.map (some mb)) post :: (mb,o) :: rows A) (b:=c) (T:=92) (l:=r.cells) (C:=rows B) (by have:=Own.aA.refl hk;rw [hr] at this;exact this) 0 (.int .i64 (L:Int)) (by simp [Rec.cells]);rw [hr] at hk;have ca:=hk.cell c 92 r.cells (by simp) 0 _ rfl;have fa:=hk.free c 92 r.cells (by simp) 0;have T2:=hhh T1;have HM:=hhh (ho.xC { r with limit:=(L:Int) });have HH:=hhh (ai hk hr);clear hk ho ob T1 hP hid hA hr;go_enter func37,ntmps37;go_wp2;go_ret;refine ⟨rfl,_,Map.some mb o HM.o,?_⟩;have hr':rows (A ++ (id,c,{ r with limit:=(L:Int) }) :: B)=rows A ++ Own.row c 92 ({ r with limit:=(L:Int) }:Rec).cells :: rows B:=by simp [rows]
  rw [hr',HH.o.2];exact T2.o
end
end Timer
end
section
open Go.RowKit Go.Maps
namespace Timer
def gone (es:Ents) (k:Nat):Ents:=es.filter fun e=>!(e.1 == k)
theorem aFm (es:Ents) (k j:Nat):look (gone es k) j=if j=k then .nil else look es j:=by
 unfold look gone
 induction es with
 | nil=>simp
 | cons e es ih =>
  by_cases hek:e.1=k
  ·rw [List.filter_cons_of_neg (by simp [hek]),ih]
   by_cases hj:j=k
   ·rw [ifp hj,ifp hj]
   ·rw [ifn hj,ifn hj,List.find?_cons_of_neg (by simp;omega)]
  ·rw [List.filter_cons_of_pos (by simp [hek])]
   by_cases hej:e.1=j
   ·rw [List.find?_cons_of_pos (by simp [hej]),List.find?_cons_of_pos (by simp [hej]),ifn (by omega)]
   ·rw [List.find?_cons_of_neg (by simp [hej]),List.find?_cons_of_neg (by simp [hej]),ih]
section
variable {n:Nat} {es:Ents} {b:Nat} {o:Obj} {w:World}
theorem xO (h : kY o n es) (hb : w.heap[b]? = some o) (k : Nat) (hk : k ≤ 1000000) (ty : TypeId) :
  ∃ w' o',(Builtin.delete_ #[49,3] ty #[.map (some b),.int .i64 (k:Int)]).run prog w = .ok (.tuple #[]) w' /\ w'.heap[b]? = some o' /\ kY o' n (gone es k) /\ w.grownBy w' (some b):=by
 obtain ⟨D,hD,hown⟩:=h;obtain ⟨w',hrun,hown',hg⟩:=(hown w b hb).drop law underlying49 (key k hk) ty;obtain ⟨es',clock',hb',F',hs',hD'⟩:=hown';refine ⟨w',_,hrun,hb',⟨_,⟨?_,?_⟩,fun v c hc=>⟨es',clock',hc,F',hs',hD'⟩⟩,hg.grown⟩
 ·intro j
  rw [aFm];by_cases hj:j=k
  ·subst hj
   rw [ifp rfl,atKey_del_same]
  ·rw [ifn hj,atKey_del_other (by intro e;simp at e;omega),hD.1 j]
 ·intro kl
  by_cases hk2:kl = .int .i64 (k:Int)
  ·subst hk2
   rw [has_del_same];refine ⟨fun h=>by simp at h,?_⟩;rintro ⟨e,he,h⟩;have h1:=(List.mem_filter.1 he).2;simp at h h1;omega
  ·rw [has_del_other hk2,hD.2 kl]
   constructor
   ·rintro ⟨e,he,h⟩
    refine ⟨e,List.mem_filter.2 ⟨he,?_⟩,h⟩;simp;intro h2;exact hk2 (by rw [h,h2])
   ·rintro ⟨e,he,h⟩
    exact ⟨e,(List.mem_filter.1 he).1,h⟩
end
theorem pG (A B:Ents) (k c:Nat) (r:Rec) (hA:∀ e ∈ A,e.1 ≠ k) (hB:∀ e ∈ B,e.1 ≠ k):gone (A ++ (k,c,r) :: B) k=A ++ B:=by
 unfold gone;rw [List.filter_append,List.filter_eq_self.2 (fun e he=>by simp [hA e he]),List.filter_cons_of_neg (by simp),List.filter_eq_self.2 (fun e he=>by simp [hB e he])]
section
variable {w:World} {b:Nat} {T:TypeId} {pre post:List Value} {mv:Value} {now n:Nat} {es:Ents} {h:Own.Heap}
theorem qV (A B : Ents) (c : Nat) (r : Rec) (id : Nat) (he : es = A ++ (id, c, r) :: B) (hA : ∀ e ∈ A, e.1 ≠ id) (hB : ∀ e ∈ B, e.1 ≠ id) (hid : id ≤ 1000) (hk : Own.Has w (at_ b T pre now mv post :: h)) (m : Map n es mv h) (P : Nat) (hP : P = pre.length) :
  Calls prog 45 #[.pointer (some ⟨b,P,none⟩),.int .i64 (id:Int)] w fun e w'=>e = .returned (.bool true) /\
   ∃ h',Map n (A ++ B) mv h' /\ Own.aA (at_ b T pre now mv post :: h) (at_ b T pre now mv post :: h') w w':=by
 have c1:=cU hk mcs;rw [<- hP] at c1;subst he
 cases m with
 | none h0=>simp at h0
 | some mb o ho =>
  have ob:w.heap[mb]? = some o:=hk.here (mb,o) (mcm _ mcs);have hlook:=pP ho ob id (by omega) c (iU A B c r hA);obtain ⟨w',o',hrun,hb',ho',hg⟩:=xO ho ob id (by omega) 0;rw [pG A B id c r hA hB] at ho';have t0:=kT ((Own.aA.refl hk).perm (List.Perm.refl _) (List.Perm.swap _ _ _)) hg o' hb';have hr:rows (A ++ (id,c,r) :: B)=rows A ++ Own.row c 92 r.cells :: rows B:=by simp [rows]
  have hr':rows (A ++ B)=rows A ++ rows B:=by simp [rows]
  have t1:Own.aA (at_ b T pre now (.map (some mb)) post :: (mb,o) :: rows (A ++ (id,c,r) :: B)) (at_ b T pre now (.map (some mb)) post :: (mb,o') :: rows (A ++ B)) w w':=by
   refine Own.aA.drop (c:=[Own.row c 92 r.cells]) (t0.perm (List.Perm.refl _) ?_);rw [hr,hr'];refine Own.aE _ _ fun x=>?_
   simp only [List.count_append,List.count_cons,List.cons_append,List.append_assoc,List.count_nil];omega
  have T1:=hhh t1;have HM:=hhh ho';clear hk ho ob t0 t1 hP hid hA hB hr hr' hb' ho' hg;go_enter func45,ntmps45;go_wp2;go_ret;exact ⟨rfl,_,Map.some mb o' HM.o,T1.o⟩
end
end Timer
end
section
open Go.RowKit Go.Maps
namespace Timer
def fG (now:Nat) (r:Rec):Prop:=0 <= r.begun /\ r.begun <= (now:Int) /\ 0 <= r.active /\ r.active <= (now:Int)
theorem fG.new (now:Nat):fG now ⟨0,(now:Int),(now:Int)⟩:=⟨Int.natCast_nonneg _,Int.le_refl _,Int.natCast_nonneg _,Int.le_refl _⟩
theorem fG.aIf {now:Nat} {r:Rec} (h:fG now r):fG (now + 1) r:=⟨h.1,by have:=h.2.1;omega,h.2.2.1,by have:=h.2.2.2;omega⟩
def bI (es:Ents) (id now:Nat):Ents:=es.map fun e=>if e.1=id then (e.1,e.2.1,{ e.2.2 with active:=(now:Int) }) else e
def eJ (es:Ents) (id:Nat) (L:Int):Ents:=es.map fun e=>if e.1=id then (e.1,e.2.1,{ e.2.2 with limit:=L }) else e
theorem gL (es:Ents) (id now:Nat):(bI es id now).map Prod.fst=es.map Prod.fst:=by
 unfold bI;rw [List.map_map];refine List.map_congr_left fun e _=>?_
 show (if e.1=id then _ else e:Nat × Nat × Rec).1=e.1;split <;> rfl
theorem vK (es:Ents) (id:Nat) (L:Int):(eJ es id L).map Prod.fst=es.map Prod.fst:=by
 unfold eJ;rw [List.map_map];refine List.map_congr_left fun e _=>?_
 show (if e.1=id then _ else e:Nat × Nat × Rec).1=e.1;split <;> rfl
theorem nX {es:Ents} {id now n:Nat} (h1:∀ e ∈ es,e.1 < n) (h2:∀ e ∈ es,fG now e.2.2):∀ e ∈ bI es id now,e.1 < n /\ fG now e.2.2:=by
 intro e he;obtain ⟨e0,h3,rfl⟩:=List.mem_map.1 he;have h4:=h1 e0 h3;have h5:=h2 e0 h3;by_cases hid:e0.1=id
 ·rw [ifp hid];exact ⟨h4,h5.1,h5.2.1,Int.natCast_nonneg _,Int.le_refl _⟩
 ·rw [ifn hid];exact ⟨h4,h5⟩
theorem xF {es:Ents} {id now n:Nat} {L:Int} (h1:∀ e ∈ es,e.1 < n) (h2:∀ e ∈ es,fG now e.2.2):∀ e ∈ eJ es id L,e.1 < n /\ fG now e.2.2:=by
 intro e he;obtain ⟨e0,h3,rfl⟩:=List.mem_map.1 he;have h4:=h1 e0 h3;have h5:=h2 e0 h3;by_cases hid:e0.1=id
 ·rw [ifp hid];exact ⟨h4,h5⟩
 ·rw [ifn hid];exact ⟨h4,h5⟩
theorem jJ {es:Ents} {id now:Nat} (h:∀ e ∈ es,e.1 ≠ id):bI es id now=es:=by
 unfold bI
 conv=>rhs;rw [<- List.map_id es]
 exact List.map_congr_left fun e he=>ifn (h e he)
theorem lY {es:Ents} {id:Nat} {L:Int} (h:∀ e ∈ es,e.1 ≠ id):eJ es id L=es:=by
 unfold eJ
 conv=>rhs;rw [<- List.map_id es]
 exact List.map_congr_left fun e he=>ifn (h e he)
theorem sC (A B:Ents) (id c now:Nat) (r:Rec) (hA:∀ e ∈ A,e.1 ≠ id) (hB:∀ e ∈ B,e.1 ≠ id):bI (A ++ (id,c,r) :: B) id now=A ++ (id,c,{ r with active:=(now:Int) }) :: B:=by
 have h1:=jJ (now:=now) hA;have h2:=jJ (now:=now) hB;unfold bI at *
 rw [List.map_append,List.map_cons,h1,h2,ifp rfl]
theorem sI (A B:Ents) (id c:Nat) (L:Int) (r:Rec) (hA:∀ e ∈ A,e.1 ≠ id) (hB:∀ e ∈ B,e.1 ≠ id):eJ (A ++ (id,c,r) :: B) id L=A ++ (id,c,{ r with limit:=L }) :: B:=by
 have h1:=lY (L:=L) hA;have h2:=lY (L:=L) hB;unfold eJ at *
 rw [List.map_append,List.map_cons,h1,h2,ifp rfl]
theorem qG (es:Ents) (k:Nat) (ho:(es.map Prod.fst).Nodup):(∀ e ∈ es,e.1 ≠ k) \/ ∃ A c r B,es=A ++ (k,c,r) :: B /\ (∀ e ∈ A,e.1 ≠ k) /\ ∀ e ∈ B,e.1 ≠ k:=by
 induction es with
 | nil=>exact .inl (by simp)
 | cons e es ih =>
  rw [List.map_cons] at ho;have h1:=List.nodup_cons.1 ho;by_cases hk:e.1=k
  ·obtain ⟨k',c,r⟩:=e
   simp only at hk;subst hk;exact .inr ⟨[],c,r,es,rfl,by simp,fun e he hek=>h1.1 (by show k' ∈ _;rw [<- hek];exact List.mem_map_of_mem he)⟩
  ·rcases ih h1.2 with h2 | ⟨A,c,r,B,h3,h4,h5⟩
   ·refine .inl fun e' he'=>?_
    rcases List.mem_cons.1 he' with rfl | h3
    ·exact hk
    ·exact h2 e' h3
   ·refine .inr ⟨e :: A,c,r,B,by rw [h3];rfl,fun e' he'=>?_,h5⟩
    rcases List.mem_cons.1 he' with rfl | h6
    ·exact hk
    ·exact h4 e' h6
section
variable {w:World} {b:Nat} {T:TypeId} {pre post:List Value} {mv:Value} {now n:Nat} {es:Ents} {h:Own.Heap}
theorem aCw (m : Map n es mv h) (hk : Own.Has w (at_ b T pre now mv post :: h)) (id : Nat) (hid : id ≤ 1000) (hl : ∀ e ∈ es, e.1 ≠ id) :
  (Instr.lookup 49 mv (.int .i64 (id:Int)) false).run prog w = .ok (.pointer none) w:=by
 cases m with
 | none h0=>exact aC9 id (by omega) w
 | some mb o ho=>exact xI ho (hk.here (mb,o) (mcm _ mcs)) id (by omega) (uS hl)
theorem aAg (hk : Own.Has w (at_ b T pre now mv post :: h)) (m : Map n es mv h) (P : Nat) (hP : P = pre.length) (id : Nat) (hid : id ≤ 1000) (hl : ∀ e ∈ es, e.1 ≠ id) :
  Calls prog 30 #[.pointer (some ⟨b,P,none⟩),.int .i64 (id:Int)] w fun e w'=>e = .returned (.bool false) /\ Own.aA (at_ b T pre now mv post :: h) (at_ b T pre now mv post :: h) w w':=by
 have c0:=cell0 hk mcs;have c1:=cU hk mcs;rw [<- hP] at c0 c1;have hlook:=aCw m hk id hid hl;have HT:=hhh (Own.aA.refl hk);clear hk m hP hid hl;go_enter func30,ntmps30;go_wp2;go_ret;exact ⟨rfl,HT.o⟩
theorem aD8 (hk : Own.Has w (at_ b T pre now mv post :: h)) (m : Map n es mv h) (P : Nat) (hP : P = pre.length) (id : Nat) (hid : id ≤ 1000) (hl : ∀ e ∈ es, e.1 ≠ id) :
  Calls prog 45 #[.pointer (some ⟨b,P,none⟩),.int .i64 (id:Int)] w fun e w'=>e = .returned (.bool false) /\ Own.aA (at_ b T pre now mv post :: h) (at_ b T pre now mv post :: h) w w':=by
 have c0:=cell0 hk mcs;have c1:=cU hk mcs;rw [<- hP] at c0 c1;have hlook:=aCw m hk id hid hl;have HT:=hhh (Own.aA.refl hk);clear hk m hP hid hl;go_enter func45,ntmps45;go_wp2;go_ret;exact ⟨rfl,HT.o⟩
theorem nK (id : Nat) (ho : (es.map Prod.fst).Nodup) (hid : id ≤ 1000) (hk : Own.Has w (at_ b T pre now mv post :: h)) (m : Map n es mv h) (P : Nat) (hP : P = pre.length) :
  Calls prog 30 #[.pointer (some ⟨b,P,none⟩),.int .i64 (id:Int)] w fun e w'=>(∃ v,e = .returned (.bool v)) /\
   ∃ h',Map n (bI es id now) mv h' /\ Own.aA (at_ b T pre now mv post :: h) (at_ b T pre now mv post :: h') w w':=by
 rcases qG es id ho with hl | ⟨A,c,r,B,rfl,hA,hB⟩
 ·rw [jJ hl]
  exact (aAg hk m P hP id hid hl).mono fun e w' h1=>⟨⟨_,h1.1⟩,h,m,h1.2⟩
 ·rw [sC A B id c now r hA hB]
  exact (aE1 A B c r id rfl hA hid hk m P hP).mono fun e w' h1=>⟨⟨_,h1.1⟩,h1.2⟩
theorem aF3 (es:Ents) (k:Nat) (hl:∀ e ∈ es,e.1 ≠ k):gone es k=es:=List.filter_eq_self.2 fun e he=>by simp [hl e he]
theorem aGu (id : Nat) (ho : (es.map Prod.fst).Nodup) (hid : id ≤ 1000) (hk : Own.Has w (at_ b T pre now mv post :: h)) (m : Map n es mv h) (P : Nat) (hP : P = pre.length) :
  Calls prog 45 #[.pointer (some ⟨b,P,none⟩),.int .i64 (id:Int)] w fun e w'=>(∃ v,e = .returned (.bool v)) /\
   ∃ h',Map n (gone es id) mv h' /\ Own.aA (at_ b T pre now mv post :: h) (at_ b T pre now mv post :: h') w w':=by
 rcases qG es id ho with hl | ⟨A,c,r,B,rfl,hA,hB⟩
 ·rw [aF3 es id hl]
  exact (aD8 hk m P hP id hid hl).mono fun e w' h1=>⟨⟨_,h1.1⟩,h,m,h1.2⟩
 ·rw [pG A B id c r hA hB]
  exact (qV A B c r id rfl hA hB hid hk m P hP).mono fun e w' h1=>⟨⟨_,h1.1⟩,h1.2⟩
end
end Timer
end
end Go.Proofs.YtcjflgmcjfcodaaGreat
