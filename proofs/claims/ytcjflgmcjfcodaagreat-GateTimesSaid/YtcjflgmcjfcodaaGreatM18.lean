/- Texts of the walk, joined. -/
import Derived.Test.YtcjflgmcjfcodaaGreatM05
import Derived.Test.YtcjflgmcjfcodaaGreatM07
import Derived.Test.YtcjflgmcjfcodaaGreatM08
import Derived.Lib.FrozenHead2
set_option maxRecDepth 100000
set_option maxHeartbeats 8000000
namespace Go.Proofs.Tryz end Go.Proofs.Tryz
namespace Go.Proofs.YtcjflgmcjfcodaaGreat
open Go.Proofs.Tryz
section
open Go.RowKit
namespace Own
inductive Buf (e:TypeId) (l:List UInt8):Value -> Heap -> Prop where
 | none (h:l=[]):Buf e l (.slice none 0 0) []
 | row (g cap:Nat) (cur:Array Value) (fz:Nat × Nat) (h0:l ≠ []) (h1:fz.2 <= l.length) (h2:l.length <= cap) (h3:cap <= maxLen) (h4:cur.size=cap) (h5:cur.toList.take l.length=Lib.byteCells l) :
   Buf e l (.slice (some ⟨g,0,Option.none⟩) l.length cap) [(g,.cells cur e fz)]
section
variable {P:Program} {w:World} {e:TypeId} {l:List UInt8} {v:Value} {h:Heap}
theorem Buf.len (s:Buf e l v h):∃ a c,v = .slice a l.length c:=by
 cases s with
 | none h=>subst h;exact ⟨_,_,rfl⟩
 | row g cap cur fz h0 h1 h2 h3 h4 h5=>exact ⟨_,_,rfl⟩
theorem yT {g j:Nat} {cur:Array Value} {fz:Nat × Nat} (hg:w.heap[g]? = some (.cells cur e fz)):w.cell? ⟨g,j,none⟩=cur[j]?:=by
 simp [World.cell?,hg]
theorem aA.freeze {a r : Heap} {g : Nat} {cur : Array Value} {e : TypeId} {fz : Nat × Nat} {u v : World} (h : aA a ((g, .cells cur e fz) :: r) u v) (n : Nat) (hn : n ≠ 0) :
  aA a ((g,.cells cur e (if fz.1 == fz.2 then (0,0 + n) else (min fz.1 0,max fz.2 (0 + n)))) :: r) u (v.freeze ⟨g,0,none⟩ n):=by
 have hb:g ∉ blocks r:=(List.nodup_cons.1 h.has.once).1;have h0:=h.has.here _ mcs;simp only at h0;have hz:(v.freeze ⟨g,0,none⟩ n).heap[g]? = some (.cells cur e (if fz.1 == fz.2 then (0,0 + n) else (min fz.1 0,max fz.2 (0 + n)))):=by
  unfold World.freeze;rw [ifn hn];simp only [Array.getElem?_modify,if_true,h0,Option.map_some]
 have ho:∀ k,k ≠ g -> (v.freeze ⟨g,0,none⟩ n).heap[k]? = v.heap[k]?:=fun k hk=>by
  unfold World.freeze;rw [ifn hn];simp only [Array.getElem?_modify];rw [ifn (Ne.symm hk)]
 have hs:(v.freeze ⟨g,0,none⟩ n).heap.size=v.heap.size:=by
  unfold World.freeze;rw [ifn hn];simp
 have hos:(v.freeze ⟨g,0,none⟩ n).os=v.os /\ (v.freeze ⟨g,0,none⟩ n).tape=v.tape /\ (v.freeze ⟨g,0,none⟩ n).output=v.output:=by
  unfold World.freeze;rw [ifn hn];exact ⟨rfl,rfl,rfl⟩
 refine ⟨⟨fun p hp=>?_,h.has.once⟩,⟨hos.1.trans h.keeps.os,hos.2.1.trans h.keeps.tape,hos.2.2.trans h.keeps.output,by rw [hs];exact h.keeps.size,fun i hi hni=>?_⟩,h.new⟩
 ·rcases List.mem_cons.1 hp with rfl | h2
  ·exact hz
  ·exact (ho _ fun e=>hb (by have h3:=List.mem_map_of_mem (f:=Prod.fst) h2;rw [e] at h3;exact h3)).trans (h.has.here p (mcm _ h2))
 ·refine (ho _ fun e=>hni ?_).trans (h.keeps.block i hi hni)
  subst e;rcases h.new _ mcs with h3 | h3
  ·exact h3
  ·exfalso;simp only at h3;omega
theorem aA.setRow {a r : Heap} {g : Nat} {cur cs : Array Value} {e : TypeId} {fz : Nat × Nat} {u v : World} (h : aA a ((g, .cells cur e fz) :: r) u v) :
  aA a ((g,.cells cs e fz) :: r) u (v.setRow g cs):=by
 have hb:g ∉ blocks r:=(List.nodup_cons.1 h.has.once).1;have h0:=h.has.here _ mcs;refine ⟨⟨fun p hp=>?_,h.has.once⟩,⟨h.keeps.os,h.keeps.tape,h.keeps.output,by rw [setRow_size];exact h.keeps.size,fun i hi hn=>?_⟩,h.new⟩
 ·rcases List.mem_cons.1 hp with rfl | h2
  ·exact setRow_heap v g cur cs e fz h0
  ·exact (setRow_other _ _ _ _ fun e=>hb (by have h3:=List.mem_map_of_mem (f:=Prod.fst) h2;rw [e] at h3;exact h3)).trans (h.has.here p (mcm _ h2))
 ·refine (setRow_other _ _ _ _ fun e=>hn ?_).trans (h.keeps.block i hi hn)
  subst e;rcases h.new _ mcs with h3 | h3
  ·exact h3
  ·exfalso;simp only at h3;omega
theorem pD (t u ty : TypeId) (i : TypeInfo) (ht : P.underlying t = some (.slice e)) (hu : P.underlying u = some .string) (hi : P.info? e = some i) (hz : i.zero = some (.int .u8 0))
  (hsize:i.size=1) (hby:i.bytes=1) (b:Buf e l v h) (hw:Has w h) (s:ByteArray) (h63:l.length + s.size <= maxLen) (hbytes:l.length + s.size <= 140737488355328) :
  ∃ v' h' w',(Builtin.append_ #[t,u] ty #[v,.string s]).run P w = .ok v' w' /\ Buf e (l ++ s.data.toList) v' h' /\ aA h h' w w':=by
 have hln:(l ++ s.data.toList).length=l.length + s.size:=by rw [lla];rfl
 have hcells:Lib.byteCells (l ++ s.data.toList)=Lib.byteCells l ++ Lib.strCells s:=Lib.byteCells_append _ _
 cases b with
 | none h0 =>
  subst h0;obtain ⟨v',w',hr,h2,h3,h4⟩:=Lib.run_append_own_string (P:=P) w w.heap.size t u ty e i ht hu hi hz hsize hby (.slice none 0 0) 0 [] ⟨rfl,.inl ⟨rfl,rfl⟩⟩ s (by simpa using h63) (by simpa using hbytes) (Nat.le_refl _);rcases h2.2 with ⟨rfl,hn⟩ | ⟨g,cap,cur,rfl,hb,hg,hnc,hcm,hcs,htk⟩
  ·refine ⟨_,[],w',hr,.none ?_,⟨Has.nil _,⟨h3.os,h3.tape,h3.output,h3.size,fun k hk _=>h3.block k hk (by simp [Value.ownBlock])⟩,fun b hb=>by cases hb⟩⟩
   exact List.eq_nil_of_length_eq_zero (by rw [hln];simp only [List.length_nil];omega)
  ·refine ⟨_,[(g,.cells cur e (0,0))],w',hr,?_,⟨⟨fun p hp=>by rw [List.mem_singleton.1 hp];exact hg,by simp⟩,⟨h3.os,h3.tape,h3.output,h3.size,fun k hk _=>h3.block k hk (by simp [Value.ownBlock])⟩,fun b hb'=>by
    have:b=g:=by simpa [blocks] using hb'
    subst this;exact .inr hb⟩⟩
   have hne:([]:List UInt8) ++ s.data.toList ≠ []:=fun e0=>by
    have e1:s.size=0:=by have:=congrArg List.length e0;rw [hln] at this;simpa using this
    have:=h4.2 ⟨rfl,e1⟩
    cases this
   have:=Buf.row (e:=e) (l:=[] ++ s.data.toList) g cap cur (0,0) hne (Nat.zero_le _) (by rw [hln];simpa using hnc) hcm (by simpa using hcs) (by rw [hln,hcells];simpa [Lib.byteCells] using htk);rw [hln] at this;simpa using this
 | row g cap cur fz h0 h1 h2 h3 h4 h5 =>
  have hg:w.heap[g]? = some (.cells cur e fz):=hw.here _ msr;by_cases hroom:l.length + s.size <= cap
  ·have hr:=Lib.run_append_room_stringF (P:=P) w t u ty e i ht hu hi hsize g l.length cap cur fz hg h1 s hroom (by omega)
   refine ⟨_,_,_,hr,?_,aA.setRow (r:=[]) (aA.refl hw)⟩;have:=Buf.row (e:=e) (l:=l ++ s.data.toList) g cap (cur.toList.take l.length ++ Lib.strCells s ++ cur.toList.drop (l.length + s.size)).toArray fz (List.append_ne_nil_of_left_ne_nil h0 _) (by rw [hln];omega) (by rw [hln];exact hroom) h3
    (by
     have hcur:cur.toList.length=cap:=by rw [Array.length_toList];exact h4
     rw [List.size_toArray,lla,lla,List.length_take,List.length_drop,hcur,Lib.strCells_length];omega)
    (by
     have hcur:cur.toList.length=cap:=by rw [Array.length_toList];exact h4
     have hl2:(cur.toList.take l.length ++ Lib.strCells s).length=l.length + s.size:=by rw [lla,List.length_take,hcur,Lib.strCells_length];omega
     rw [hln,hcells,<- h5];show List.take (l.length + s.size) ((cur.toList.take l.length ++ Lib.strCells s) ++ cur.toList.drop (l.length + s.size))=_
     rw [<- hl2,List.take_left])
   rw [hln] at this;exact this
  ·have hr:=Lib.run_append_grow_string (P:=P) w t u ty e i (.int .u8 0) ht hu hi hz ⟨g,0,none⟩ l.length cap (Lib.byteCells l) (by rw [hsize,Lib.byteCells_length];omega)
    (fun j u hj=>by
     have hadd:(⟨g,0,none⟩:Addr).add j=⟨g,j,none⟩:=by unfold Addr.add;split <;> simp_all
     rw [hadd,yT hg];rw [<- h5,List.getElem?_take] at hj;split at hj
     ·simpa using hj
     ·cases hj) s (by omega) (by simp only [maxLen] at h63;omega) (by rw [hby];exact growslice_fits (by omega) (by omega))
   have hge:=grownCap_ge w (l.length + s.size) cap e;have hcm2:grownCap w (l.length + s.size) cap e <= maxLen:=grownCap_le_maxLen w (l.length + s.size) cap e h63;refine ⟨_,_,_,hr,?_,aA.forget (b:=[]) (aA.drop (b:=[_]) ((aA.refl hw).drew.alloc _))⟩;have hz1:(Value.int IntKind.u8 0).cells.size=1:=rfl;have:=Buf.row (e:=e) (l:=l ++ s.data.toList) w.heap.size (grownCap w (l.length + s.size) cap e) ((Lib.byteCells l).toArray ++ (Lib.strCells s).toArray ++ Builtin.zeroCells (Value.int IntKind.u8 0).cells (grownCap w (l.length + s.size) cap e - (l.length + s.size))) (0,0) (List.append_ne_nil_of_left_ne_nil h0 _) (Nat.zero_le _) (by rw [hln];exact hge) hcm2
    (by simp only [Array.size_append,List.size_toArray,size_zeroCells,hz1,Lib.byteCells_length,Lib.strCells_length];omega)
    (by
     have hl2:(Lib.byteCells l ++ Lib.strCells s).length=l.length + s.size:=by rw [lla,Lib.byteCells_length,Lib.strCells_length]
     rw [hln,hcells];simp only [Array.toList_append];show List.take (l.length + s.size) ((Lib.byteCells l ++ Lib.strCells s) ++ _)=_
     rw [<- hl2,List.take_left])
   rw [hln] at this;exact this
theorem iF {ops : Array Oper} {rest : List Oper} {o : Oper} {a : Act} {Q : Exit → Act → World → Prop} (hgd : o.guard = none) (sl x : Operand) (t u : TypeId)
  (ho:o.op = .call { callee:=.builtin .append,args:=#[sl,x],argTypes:=#[t,u] })
  (e:TypeId) (i:TypeInfo) (ht:P.underlying t=some (.slice e)) (hu:P.underlying u=some .string) (hi:P.info? e=some i) (hz:i.zero=some (.int .u8 0)) (hsize:i.size=1) (hby:i.bytes=1)
  (v:Value) (l:List UInt8) (h R:Heap) (hs:a.eval sl=v) (b:Buf e l v h) (hw:Has w (h ++ R)) (s:ByteArray) (hx:a.eval x = .string s)
  (h63:l.length + s.size <= maxLen) (hbytes:l.length + s.size <= 140737488355328)
  (hK:∀ ad' n' c' h' w',n'=(l ++ s.data.toList).length -> Buf e (l ++ s.data.toList) (.slice ad' n' c') h' -> aA (h ++ R) (h' ++ R) w w' -> wpList P ops Q rest (a.put o.dst (.slice ad' n' c')) w') :
  wpList P ops Q (o :: rest) a w:=by
 refine wpList_plain hgd fun K hK'=>?_
 obtain ⟨v',h',w',hr,h2,h3⟩:=pD (P:=P) t u o.type i ht hu hi hz hsize hby b hw.left s h63 hbytes;obtain ⟨ad',c',rfl⟩:=h2.len;unfold Oper.wp execOp;simp only [ho,resolve,invoke,builtin,Sem.run_bind,Sem.run_pure,Result.andThen_ok,List.map_toArray,List.map_cons,List.map_nil,hs,hx,hr];exact hK' _ _ (hK _ _ _ _ _ rfl h2 (h3.frame hw))
end
end Own
end
section
open Go.RowKit
namespace Own
theorem aA.only {b : Nat} {T : TypeId} {pre l l' post : List Value} {r : Heap} {u v : World} (k : Has u (row b T (pre ++ l ++ post) :: r)) (i : At.Is v b T pre l' post) (o : At.aV b u v) :
  aA (row b T (pre ++ l ++ post) :: r) (row b T (pre ++ l' ++ post) :: r) u v:=by
 have hb:b ∉ blocks r:=(List.nodup_cons.1 k.once).1;refine ⟨⟨fun p hp=>?_,k.once⟩,⟨o.os,o.tape,o.output,o.size,fun i hi hn=>o.block i hi fun e=>hn (by rw [e];exact List.mem_cons_self ..)⟩,fun x hx=>.inl hx⟩;rcases List.mem_cons.1 hp with rfl | h2
 ·exact i
 ·have hm:=List.mem_map_of_mem (f:=Prod.fst) h2
  exact (o.block p.1 (k.lt (mcm _ hm)) fun e=>hb (by rw [e] at hm;exact hm)).trans (k.here p (mcm _ h2))
end Own
namespace Bld
section
variable {w:World} {b N:Nat} {T:TypeId} {pre post:List Value} {p sv:Value}
theorem aHs {l:List Value} (h:At.Is w b T pre l post) (hN:(pre ++ l ++ post).length=N):w.shape? b=some (T,N):=by
 unfold At.Is at h;simp only [World.shape?,h];rw [<- hN];rfl
theorem lZ (lies : liesAt prog prog.depth T (N / prog.cellsOf T) pre.length 115 1 = true) (hN : (pre ++ [p, sv] ++ post).length = N)
  (h:At.Is w b T pre [p,sv] post) (hp:p = .pointer none \/ p = .pointer (some ⟨b,pre.length,none⟩)) :
  Calls prog 106 #[.pointer (some ⟨b,pre.length,none⟩)] w fun e w'=>e = .returned (.tuple #[]) /\ At.Is w' b T pre [.pointer (some ⟨b,pre.length,none⟩),sv] post /\ At.aV b w w':=by
 have c0:=h.cell0 _ rfl;have f0:=h.free pre.length;have hsh:=aHs h hN;obtain ⟨j,hj,hjs⟩:=Option.map_eq_some_iff.1 sizeB;have hlt:pre.length < N:=by rw [<- hN];simp
 have HI:=hhh h;rcases hp with rfl | rfl
 ·clear h
  go_enter func106,ntmps106;go_wp2;rw [Lib.run_to_unsafe w ⟨b,pre.length,none⟩ underlying113 underlying203 hj (by rw [hjs];decide) hsh hlt];simp only [Result.andThen];rw [Oper.upon_value];go_wp2;rw [run_callFunc_extern func118 (by kernel_rfl) (by kernel_rfl) (by kernel_rfl) (e:=Extern.AbiNoEscape.same) (by kernel_rfl)];rw [Lib.run_noEscape];simp only [Result.andThen];rw [Oper.upon_value];go_wp2;rw [Lib.run_from_unsafe w ⟨b,pre.length,none⟩ underlying203 underlying113 hj hsh lies];simp only [Result.andThen];rw [Oper.upon_value];go_wp2;go_end0;exact ⟨rfl,HI.o.lG _ (Nat.zero_lt_succ _),(At.aV.refl b w).set _ _⟩
 ·clear h
  go_enter func106,ntmps106;go_wp2;rw [Lib.run_neq_ptr_same w _ underlying113 hj];go_wp2;go_end0;exact ⟨rfl,HI.o,At.aV.refl b w⟩
theorem aL6 (lies : liesAt prog prog.depth T (N / prog.cellsOf T) pre.length 115 1 = true) (hN : (pre ++ [p, sv] ++ post).length = N)
  {l:List UInt8} {hb:Own.Heap} (s:ByteArray) (hB:Own.Buf 5 l sv hb) (hw:Own.Has w (Own.row b T (pre ++ [p,sv] ++ post) :: hb)) (hp:p = .pointer none \/ p = .pointer (some ⟨b,pre.length,none⟩)) (hl:l.length + s.size <= 1000000) :
  Calls prog 80 #[.pointer (some ⟨b,pre.length,none⟩),.string s] w fun e w'=>e = .returned (.tuple #[.int .i64 s.size,.nilIface]) /\
   ∃ sv' hb',Own.Buf 5 (l ++ s.data.toList) sv' hb' /\ Own.aA (Own.row b T (pre ++ [p,sv] ++ post) :: hb) (Own.row b T (pre ++ [.pointer (some ⟨b,pre.length,none⟩),sv'] ++ post) :: hb') w w':=by
 have hi:=hw.is3 mcs;have HC:=hhh (lZ lies hN hi hp);have HW:=hhh hw;obtain ⟨i0,hii,hz0,hz1,hz2⟩:=info_parts infoByte;have HL:=hhh hl;clear hw lies hN hl;go_enter func80,ntmps80;go_wp2_with (fail);refine HC.o.mono ?_;rintro e w1 ⟨rfl,h1,o1⟩;have t1:=Own.aA.only HW.o h1 o1;have c1:=h1.cell 1 _ rfl;have HI1:=hhh h1;clear h1 o1;go_wp2_with (at_builtin;refine Own.iF rfl _ _ 55 9 rfl 5 i0 underlying55 underlying9 hii hz0 hz1 hz2 _ l hb [_] rfl hB (t1.has.perm (List.perm_append_comm (l₁:=[_]))) s rfl ?c3 ?c4 ?_)
 case c3=>have:=HL.o;unfold maxLen;omega
 case c4=>have:=HL.o;omega
 intro ad' n' c' h' w2 hn hB' t2;have t2':=t2.perm List.perm_append_comm List.perm_append_comm;have eqr:∀ x y:Value,pre ++ x :: y :: post=pre ++ [x,y] ++ post:=fun x y=>by simp
 rw [eqr] at t2';have t3:=t1.trans t2';have hi2:=t3.has.is3 mcs;have f1:=hi2.free (pre.length + 1);have c12:=hi2.cell 1 _ rfl;clear hi hn eqr;go_wp2;go_ret2;refine ⟨rfl,_,_,hB',?_⟩;have h4:=hi2.set 1 (.slice ad' n' c') (Nat.le_refl _);exact t3.trans (Own.aA.only t3.has h4 ((At.aV.refl b _).set _ _))
theorem aBj (l : List UInt8) (h0 : l ≠ []) (g cap : Nat) (cur : Array Value) (fz : Nat × Nat) (hn : l.length ≤ cap) (h3 : cap ≤ maxLen) (h4 : cur.size = cap) (h5 : cur.toList.take l.length = Lib.byteCells l) (W : World) (hg : W.heap[g]? = some (.cells cur 5 fz)) :
  (Builtin.unsafeString_ #[165,3] 9 #[.pointer (some ⟨g,0,none⟩),.int .i64 l.length]).run prog W = .ok (.string ⟨l.toArray⟩) (W.freeze ⟨g,0,none⟩ l.length):=by
 refine Lib.run_unsafeString_row W 165 3 9 5 underlying165 (by kernel_rfl) g cap ?_ l h0 hn (by unfold maxLen at h3;omega) ?_
 ·simp [World.shape?,hg,h4]
 ·intro j x hj
  have hadd:(⟨g,0,none⟩:Addr).add j=⟨g,j,none⟩:=by unfold Addr.add;split <;> simp_all
  rw [hadd,Own.yT hg];have hjl:j < l.length:=(List.getElem?_eq_some_iff.1 hj).1;have h6:(cur.toList.take l.length)[j]? = some (.int .u8 (x.toNat:Int)):=by
   rw [h5];unfold Lib.byteCells;rw [List.getElem?_map,hj];rfl
  rw [List.getElem?_take,ifp hjl] at h6;simpa using h6
theorem sZ {l : List UInt8} {hb : Own.Heap} (hB : Own.Buf 5 l sv hb) (hw : Own.Has w (Own.row b T (pre ++ [p, sv] ++ post) :: hb)) :
  Calls prog 81 #[.pointer (some ⟨b,pre.length,none⟩)] w fun e w'=>e = .returned (.string ⟨l.toArray⟩) /\
   ∃ hb',Own.Buf 5 l sv hb' /\ Own.aA (Own.row b T (pre ++ [p,sv] ++ post) :: hb) (Own.row b T (pre ++ [p,sv] ++ post) :: hb') w w':=by
 have hi:=hw.is3 mcs;have c1:=hi.cell 1 _ rfl;have HW:=hhh hw;have HB:=hhh hB
 cases hB with
 | none h0 =>
  subst h0;have hUS:∀ W:World,(Builtin.unsafeString_ #[165,3] 9 #[.pointer none,.int .i64 0]).run prog W = .ok (.string .empty) W:=fun W=>Lib.run_unsafeString_none W _ _ _ none
  have hSD:∀ W:World,(Builtin.unsafeSliceData_ #[55] 165 #[.slice none 0 0]).run prog W = .ok (.pointer none) W:=fun W=>Lib.run_unsafeSliceData_nil W _ _ _ _
  clear hw hi;go_enter func81,ntmps81;go_wp2;go_region;go_wp2;go_ret;exact ⟨rfl,_,HB.o,(Own.aA.refl HW.o).drew⟩
 | row g cap cur fz h0 h1 h2 h3 h4 h5 =>
  have hne:cap ≠ 0:=by
   have:l.length ≠ 0:=fun e=>h0 (List.eq_nil_of_length_eq_zero e)
   omega
  have hg:=hw.here (g,.cells cur 5 fz) (mcm _ msr);have hUS:=aBj l h0 g cap cur fz h2 h3 h4 h5 w.drew hg;have hSD:∀ W:World,(Builtin.unsafeSliceData_ #[55] 165 #[.slice (some ⟨g,0,none⟩) l.length cap]).run prog W = .ok (.pointer (some ⟨g,0,none⟩)) W:=fun W=>Lib.run_unsafeSliceData_row W _ _ _ _ _ hne
  have HL:=hhh (show l.length ≠ 0 from fun e=>h0 (List.eq_nil_of_length_eq_zero e));have HF:=hhh (fun z:Nat × Nat=>fun hz:z.2 <= l.length=>Own.Buf.row (e:=5) g cap cur z h0 hz h2 h3 h4 h5);have H1:=hhh h1;clear hw hi hg h0 h1 h2 h3 h4 h5 hne;go_enter func81,ntmps81;go_wp2;go_region;go_wp2;go_ret;have t1:=Own.aA.freeze ((Own.aA.refl (HW.o.perm (List.Perm.swap ..))).drew) l.length HL.o;refine ⟨rfl,_,HF.o _ ?_,t1.perm (List.Perm.swap ..) (List.Perm.swap ..)⟩;split
  ·simp
  ·have:=H1.o;simp;omega
end
end Bld
end
end Go.Proofs.YtcjflgmcjfcodaaGreat
