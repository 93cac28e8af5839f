/- Texts of the walk, joined. -/
import Derived.Test.YtcjflgmcjfcodaaGreatM01
import Derived.ArgAppend
import Derived.Lib.BufferRead
import Derived.Maps.AppendAt
set_option maxRecDepth 100000
set_option maxHeartbeats 8000000
namespace Go.Proofs.Tryz end Go.Proofs.Tryz
namespace Go.Proofs.YtcjflgmcjfcodaaGreat
open Go.Proofs.Tryz
section
open Go.RowKit
namespace Own
inductive Slc (e:TypeId) (xs:List Value):Value -> Heap -> Prop where
 | bare (a:Option Addr) (h0:xs=[]):Slc e xs (.slice a 0 0) []
 | row (b:Nat) (pre spare:List Value) (hm:xs.length + spare.length <= maxLen) :
   Slc e xs (.slice (some ⟨b,pre.length,none⟩) xs.length (xs.length + spare.length)) [row b e (pre ++ (xs ++ spare))]
theorem aBq (pre l post:List Value) (j:Nat) (x:Value) (hj:j < l.length):(pre ++ (l ++ post)).set (pre.length + j) x=pre ++ (l.set j x ++ post):=by
 rw [List.set_append_right _ _ (by omega),Nat.add_sub_cancel_left,List.set_append_left _ _ hj]
theorem aA.aLt {a r : Heap} {b : Nat} {T : TypeId} {u : World} (news : List Value) : ∀ (pre l post : List Value) (v : World), aA a (row b T (pre ++ (l ++ post)) :: r) u v → news.length = l.length →
  aA a (row b T (pre ++ (news ++ post)) :: r) u (v.setCells b pre.length news):=by
 induction news with
 | nil =>
  intro pre l post v h hl;have:l=[]:=List.eq_nil_of_length_eq_zero hl.symm;subst this;exact h
 | cons x news ih =>
  intro pre l post v h hl
  match l,hl with
  | y :: l,hl =>
   have h1:=h.set pre.length x (by simp);have e1:(pre ++ (y :: l ++ post)).set pre.length x=(pre ++ [x]) ++ (l ++ post):=by
    have:=aBq pre (y :: l) post 0 x (by simp);rw [Nat.add_zero] at this;rw [this];simp
   rw [e1] at h1;have h2:=ih (pre ++ [x]) l post _ h1 (by simpa using hl);rw [show (pre ++ [x]) ++ (news ++ post)=pre ++ (x :: news ++ post) by simp,lla] at h2;exact h2
section
variable {P:Program} {w:World} {e:TypeId} {xs:List Value} {v:Value} {h:Heap}
theorem Slc.len (s:Slc e xs v h):∃ a c,v = .slice a xs.length c:=by
 cases s with
 | bare a h0=>subst h0;exact ⟨a,0,rfl⟩
 | row b pre spare hm=>exact ⟨_,_,rfl⟩
theorem kI (t ty : TypeId) (i : TypeInfo) (z : Value) (bytes : Nat) (ht : P.underlying t = some (.slice e)) (hi : P.info? e = some i) (hz : i.zero = some z)
  (hsize:i.size=1) (hby:i.bytes=bytes) (hzs:z.cells.size=1)
  (s:Slc e xs v h) (hw:Has w h)
  (a:Addr) (c m:Nat) (news:List Value) (hl:news.length=m) (hnews:∀ j u,news[j]? = some u -> w.cell? (a.add j)=some u) (h1:∀ u ∈ news,u.oneCell'=true) (hm0:0 < m)
  (h63:xs.length + m <= maxLen) (hbytes:(xs.length + m) * bytes <= 140737488355328) :
  ∃ v' h' w',(Builtin.append_ #[t,t] ty #[v,.slice (some a) m c]).run P w = .ok v' w' /\ Slc e (xs ++ news) v' h' /\ aA h h' w w':=by
 subst hby;have hlm:news.length=m * i.size:=by rw [hsize,Nat.mul_one];exact hl
 have hsmall:xs.length + m <= 9223372036854775807:=by simp only [maxLen] at h63;omega
 have fresh : ∀ (old : Nat), old < xs.length + m → Slc e (xs ++ news) (.slice (some ⟨w.heap.size, 0, none⟩) (xs.length + m) (grownCap w (xs.length + m) old e))
   [(w.heap.size,.cells (xs.toArray ++ news.toArray ++ Builtin.zeroCells z.cells (grownCap w (xs.length + m) old e - (xs.length + m))) e (0,0))]:=by
  intro old ho;have hge:=grownCap_ge w (xs.length + m) old e;have hcm:grownCap w (xs.length + m) old e <= maxLen:=grownCap_le_maxLen w (xs.length + m) old e h63;generalize hG:grownCap w (xs.length + m) old e=G at hge hcm;obtain ⟨sp,hsp⟩:∃ sp,sp=(Builtin.zeroCells z.cells (G - (xs.length + m))).toList:=⟨_,rfl⟩;have hspl:sp.length=G - (xs.length + m):=by rw [hsp,Array.length_toList,size_zeroCells,hzs,Nat.mul_one]
  have:=Slc.row (e:=e) (xs:=xs ++ news) w.heap.size [] sp (by rw [lla,hspl,hl];omega);rw [lla,hl,hspl,show xs.length + m + (G - (xs.length + m))=G by omega] at this;have he:row w.heap.size e ([] ++ (xs ++ news ++ sp))=(w.heap.size,.cells (xs.toArray ++ news.toArray ++ Builtin.zeroCells z.cells (G - (xs.length + m))) e (0,0)):=by
   unfold row;congr 2;apply Array.toList_inj.1;simp [hsp]
  rw [he] at this;exact this
 cases s with
 | bare a0 h0 =>
  subst h0;have hr:=fresh 0 (by simp;omega)
  have t0 : aA [] [(w.heap.size, Obj.cells (([] : List Value).toArray ++ news.toArray ++ Builtin.zeroCells z.cells (grownCap w (([] : List Value).length + m) 0 e - (([] : List Value).length + m))) e (0, 0))] w
    (w.drew.alloc (.cells (([]:List Value).toArray ++ news.toArray ++ Builtin.zeroCells z.cells (grownCap w (([]:List Value).length + m) 0 e - (([]:List Value).length + m))) e)) :=
   (aA.refl hw).drew.alloc _
  cases a0 with
  | none =>
   have hrun:=run_append_nil (P:=P) w t ty e i z ht hi hz a m c news hlm hnews hm0 (by omega) (by simp at hbytes;omega);simp only [List.length_nil,Nat.zero_add,Array.empty_append] at hr t0 |-;exact ⟨_,_,_,hrun,hr,t0⟩
  | some a0 =>
   have hrun:=run_append_grow (P:=P) w t ty e i z ht hi hz a0 0 0 [] (by simp) (by simp) a m c news hlm hnews (by omega) (by simp at hsmall;omega) (growslice_fits (by omega) (by simp at hbytes;simpa using hbytes));simp only [List.length_nil,Nat.zero_add,Array.empty_append] at hr t0 hrun |-;exact ⟨_,_,_,hrun,hr,t0⟩
 | row b pre spare hm =>
  have is0:At.Is w b e [] (pre ++ (xs ++ spare)) []:=hw.is msr;by_cases hroom:m <= spare.length
  ·obtain ⟨s1,s2,rfl,hs1⟩:∃ s1 s2,spare=s1 ++ s2 /\ s1.length=m:=⟨spare.take m,spare.drop m,(List.take_append_drop m spare).symm,by simp;omega⟩
   have hall:pre ++ (xs ++ (s1 ++ s2))=(pre ++ xs) ++ (s1 ++ s2):=by simp
   have hrun:=run_append_room_cells (P:=P) w t ty e i ht hi b pre.length xs.length (xs.length + (s1 ++ s2).length) a m c news hlm hnews h1 (by rw [lla];omega)
    (fun j hj=>by
     have hlt:pre.length + xs.length * i.size + j < (pre ++ (xs ++ (s1 ++ s2))).length:=by rw [hsize];simp;omega
     have:=is0.cell _ _ (List.getElem?_eq_getElem hlt);simp only [List.length_nil,Nat.zero_add] at this
     rw [this];rfl)
    (fun j hj=>is0.free _)
   rw [hsize,Nat.mul_one,show pre.length + xs.length=(pre ++ xs).length by simp] at hrun;have t0:=aA.aLt (u:=w) (r:=[]) news (pre ++ xs) s1 s2 w (by have:=aA.refl hw;rw [hall] at this;exact this) (by omega);have hv:=Slc.row (e:=e) (xs:=xs ++ news) b pre s2 (by simp at hm |-;omega);rw [lla,hl,show xs.length + m + s2.length=xs.length + (s1 ++ s2).length by simp;omega] at hv;refine ⟨_,[row b e (pre ++ (xs ++ news ++ s2))],_,hrun,hv,?_⟩;have e2:pre ++ (xs ++ news ++ s2)=(pre ++ xs) ++ (news ++ s2):=by simp
   rw [e2,hall];exact t0
  ·have hrun:=run_append_grow (P:=P) w t ty e i z ht hi hz ⟨b,pre.length,none⟩ xs.length (xs.length + spare.length) xs (by rw [hsize,Nat.mul_one])
    (fun j u hj=>by
     have hjx:j < xs.length:=(List.getElem?_eq_some_iff.1 hj).1;have:=is0.cell (pre.length + j) u (by rw [List.getElem?_append_right (by omega),Nat.add_sub_cancel_left,List.getElem?_append_left hjx];exact hj)
     rw [Addr.add_lit];simpa using this)
    a m c news hlm hnews (by omega) (by omega) (growslice_fits (by omega) hbytes)
   exact ⟨_,_,_,hrun,fresh _ (by omega),aA.forget (b:=[]) (aA.drop (b:=[_]) ((aA.refl hw).drew.alloc _))⟩
theorem iG {ops : Array Oper} {rest : List Oper} {o : Oper} {a : Act} {Q : Exit → Act → World → Prop} (hgd : o.guard = none) (s x : Operand) (t : TypeId)
  (ho:o.op = .call { callee:=.builtin .append,args:=#[s,x],argTypes:=#[t,t] })
  (e:TypeId) (i:TypeInfo) (z:Value) (bytes:Nat) (ht:P.underlying t=some (.slice e)) (hi:P.info? e=some i) (hz:i.zero=some z)
  (hsize:i.size=1) (hby:i.bytes=bytes) (hzs:z.cells.size=1)
  (v:Value) (xs:List Value) (h:Heap) (hs:a.eval s=v) (hv:Slc e xs v h) (hw:Has w h)
  (ad:Addr) (c m:Nat) (news:List Value) (hx:a.eval x = .slice (some ad) m c) (hl:news.length=m) (hnews:∀ j u,news[j]? = some u -> w.cell? (ad.add j)=some u) (h1:∀ u ∈ news,u.oneCell'=true) (hm0:0 < m)
  (h63:xs.length + m <= maxLen) (hbytes:(xs.length + m) * bytes <= 140737488355328)
  (hK:∀ ad' c' h' w',Slc e (xs ++ news) (.slice ad' (xs.length + m) c') h' -> aA h h' w w' -> wpList P ops Q rest (a.put o.dst (.slice ad' (xs.length + m) c')) w') :
  wpList P ops Q (o :: rest) a w:=by
 refine wpList_plain hgd fun K hK'=>?_
 obtain ⟨v',h',w',hr,h2,h3⟩:=kI (P:=P) t o.type i z bytes ht hi hz hsize hby hzs hv hw ad c m news hl hnews h1 hm0 h63 hbytes;obtain ⟨ad',c',rfl⟩:=h2.len;rw [lla,hl] at h2 hr;unfold Oper.wp execOp;simp only [ho,resolve,invoke,builtin,Sem.run_bind,Sem.run_pure,Result.andThen_ok,List.map_toArray,List.map_cons,List.map_nil,hs,hx,hr];exact hK' _ _ (hK _ _ _ _ h2 h3)
theorem aX {ops : Array Oper} {rest : List Oper} {o : Oper} {a : Act} {Q : Exit → Act → World → Prop} (hgd : o.guard = none) (s x : Operand) (t : TypeId)
  (ho:o.op = .call { callee:=.builtin .append,args:=#[s,x],argTypes:=#[t,t] })
  (e:TypeId) (i:TypeInfo) (z:Value) (bytes:Nat) (ht:P.underlying t=some (.slice e)) (hi:P.info? e=some i) (hz:i.zero=some z)
  (hsize:i.size=1) (hby:i.bytes=bytes) (hzs:z.cells.size=1)
  (v:Value) (xs:List Value) (n:Nat) (hn:xs.length=n) (h R:Heap) (hs:a.eval s=v) (hv:Slc e xs v h) (hw:Has w (h ++ R)) (y:Value) (hx:a.eval x = .slice (some ⟨w.heap.size,0,none⟩) 1 1) (hy:y.oneCell'=true)
  (h63:n + 1 <= maxLen) (hbytes:(n + 1) * bytes <= 140737488355328)
  (hK:∀ ad' c' h' w',Slc e (xs ++ [y]) (.slice ad' (n + 1) c') h' -> aA (h ++ R) (h' ++ R) w w' -> wpList P ops Q rest (a.put o.dst (.slice ad' (n + 1) c')) w') :
  wpList P ops Q (o :: rest) a (w.alloc (.cells #[y] e)):=by
 subst hn;have t0:aA (h ++ R) (h ++ R) w (w.alloc (.cells #[y] e)):=(aA.refl hw).aD _;refine iG hgd s x t ho e i z bytes ht hi hz hsize hby hzs v xs h hs hv t0.has.left ⟨w.heap.size,0,none⟩ 1 1 [y] hx rfl (cell_one_new _ _ _) (by intro u hu;rw [List.mem_singleton.1 hu];exact hy) (by decide) h63 hbytes ?_;intro ad' c' h' w' s' t';exact hK ad' c' h' w' s' (t0.trans (t'.frame t0.has))
theorem gH {ops : Array Oper} {o : Oper} {a : Act} {K : Act → World → Prop} {Q : Exit → Act → World → Prop} {E : Prop}
  (hg:o.guard=none) (s x:Operand) (t:TypeId) (hop:o.op=Op.call { callee:=Callee.builtin Builtin.append,args:=#[s,x],argTypes:=#[t,t] })
  (e:TypeId) (i:TypeInfo) (z:Value) (bytes:Nat) (ht:P.underlying t=some (.slice e)) (hi:P.info? e=some i) (hz:i.zero=some z)
  (hsize:i.size=1) (hby:i.bytes=bytes) (hzs:z.cells.size=1)
  (v:Value) (xs:List Value) (n:Nat) (hn:xs.length=n) (h R:Heap) (hs:a.eval s=v) (hv:Slc e xs v h) (hw:Has w (h ++ R)) (b:Nat) (y:Value) (hx:a.eval x = .slice (some ⟨b,0,none⟩) 1 1) (hb:w.cell? ⟨b,0,none⟩=some y) (hy:y.oneCell'=true)
  (h63:n + 1 <= maxLen) (hbytes:(n + 1) * bytes <= 140737488355328)
  (hK:∀ ad' c' h' w',Slc e (xs ++ [y]) (.slice ad' (n + 1) c') h' -> aA (h ++ R) (h' ++ R) w w' -> K (a.put o.dst (.slice ad' (n + 1) c')) w') :
  if Region.wanted o (yielded ops a.tmps)=true then Oper.wp P o a w K Q else E:=by
 subst hn;have hwd:Region.wanted o (yielded ops a.tmps)=true:=by simp [Region.wanted,hg]
 rw [ifp hwd];obtain ⟨v',h',w',hr,h2,h3⟩:=kI (P:=P) t o.type i z bytes ht hi hz hsize hby hzs hv hw.left ⟨b,0,none⟩ 1 1 [y] rfl
  (by intro j u hj;match j,hj with | 0,hj=>(simp at hj;subst hj;simpa [Addr.add] using hb)) (by intro u hu;rw [List.mem_singleton.1 hu];exact hy) (by decide) h63 hbytes
 obtain ⟨ad',c',rfl⟩:=h2.len;rw [lla,List.length_singleton] at h2 hr;unfold Oper.wp;simp [execOp,hop,resolve,invoke,builtin,hs,hx,hr,Result.andThen];exact hK _ _ _ _ h2 (h3.frame hw)
theorem Slc.jG (l : List UInt8) (src dst : TypeId) (he : P.underlying src = some (.slice e)) (h8 : P.underlying e = some (.int .u8)) (hd : P.underlying dst = some .string)
  (s:Slc e (l.map fun (b:UInt8)=>.int .u8 (b.toNat:Int)) v h) (hw:Has w h):(convert src dst v).run P w = .ok (.string ⟨l.toArray⟩) w:=by
 generalize hxs:(l.map fun (b:UInt8)=>Value.int .u8 (b.toNat:Int))=xs at s;have hlen:xs.length=l.length:=by rw [<- hxs,List.length_map]
 cases s with
 | bare a h0 =>
  have:l=[]:=List.eq_nil_of_length_eq_zero (by rw [<- hlen,h0];rfl);subst this
  cases a with
  | none=>exact Lib.run_convert_nil_bytes w src dst e 0 he h8 hd
  | some a=>exact run_convert_bytes_back w src dst e a 0 [] he h8 hd (fun j hj=>by simp at hj)
 | row b pre spare hm =>
  rw [hlen];refine run_convert_bytes_back w src dst e ⟨b,pre.length,none⟩ _ l he h8 hd fun j hj=>?_
  rw [Addr.add_lit];refine hw.cell b e (pre ++ (xs ++ spare)) msr (pre.length + j) _ ?_;rw [List.getElem?_append_right (by omega),Nat.add_sub_cancel_left,List.getElem?_append_left (by omega),<- hxs];simp [hj]
end
end Own
end
section
open Go.RowKit
namespace Own
inductive Slk (k:Nat) (e:TypeId) (n:Nat) (xs:List Value):Value -> Heap -> Prop where
 | bare (a:Option Addr) (h0:n=0) (h1:xs=[]):Slk k e n xs (.slice a 0 0) []
 | row (b m:Nat) (spare:List Value) (hx:xs.length=n * k) (hs:spare.length=m * k) (hm:n + m <= maxLen) :
   Slk k e n xs (.slice (some ⟨b,0,none⟩) n (n + m)) [row b e (xs ++ spare)]
section
variable {P:Program} {w:World} {k:Nat} {e:TypeId} {n:Nat} {xs:List Value} {v:Value} {h:Heap}
theorem Slk.len (s:Slk k e n xs v h):∃ a c,v = .slice a n c:=by
 cases s with
 | bare a h0 h1=>subst h0;exact ⟨a,0,rfl⟩
 | row b m spare hx hs hm=>exact ⟨_,_,rfl⟩
theorem Slk.cells (s:Slk k e n xs v h):xs.length=n * k:=by
 cases s with
 | bare a h0 h1=>subst h0 h1;simp
 | row b m spare hx hs hm=>exact hx
theorem kA (t ty : TypeId) (i : TypeInfo) (z : Value) (bytes : Nat) (ht : P.underlying t = some (.slice e)) (hi : P.info? e = some i) (hz : i.zero = some z)
  (hsize:i.size=k) (hby:i.bytes=bytes) (hzs:z.cells.size=k)
  (s:Slk k e n xs v h) (hw:Has w h)
  (a:Addr) (c m:Nat) (news:List Value) (hl:news.length=m * k) (hnews:∀ j u,news[j]? = some u -> w.cell? (a.add j)=some u) (h1:∀ u ∈ news,u.oneCell'=true) (hm0:0 < m)
  (h63:n + m <= maxLen) (hbytes:(n + m) * bytes <= 140737488355328) :
  ∃ v' h' w',(Builtin.append_ #[t,t] ty #[v,.slice (some a) m c]).run P w = .ok v' w' /\ Slk k e (n + m) (xs ++ news) v' h' /\ aA h h' w w':=by
 subst hby;have hlm:news.length=m * i.size:=by rw [hsize];exact hl
 have hsmall:n + m <= 9223372036854775807:=by simp only [maxLen] at h63;omega
 have hxl:=s.cells
 have fresh : ∀ (old : Nat), old < n + m → Slk k e (n + m) (xs ++ news) (.slice (some ⟨w.heap.size, 0, none⟩) (n + m) (grownCap w (n + m) old e))
   [(w.heap.size,.cells (xs.toArray ++ news.toArray ++ Builtin.zeroCells z.cells (grownCap w (n + m) old e - (n + m))) e (0,0))]:=by
  intro old ho;have hge:=grownCap_ge w (n + m) old e;have hcm:grownCap w (n + m) old e <= maxLen:=grownCap_le_maxLen w (n + m) old e h63;generalize hG:grownCap w (n + m) old e=G at hge hcm;obtain ⟨sp,hsp⟩:∃ sp,sp=(Builtin.zeroCells z.cells (G - (n + m))).toList:=⟨_,rfl⟩;have hspl:sp.length=(G - (n + m)) * k:=by rw [hsp,Array.length_toList,size_zeroCells,hzs]
  have:=Slk.row (k:=k) (e:=e) (n:=n + m) (xs:=xs ++ news) w.heap.size (G - (n + m)) sp (by rw [lla,hxl,hl,Nat.add_mul]) hspl (by omega);rw [show n + m + (G - (n + m))=G by omega] at this;have he:row w.heap.size e (xs ++ news ++ sp)=(w.heap.size,.cells (xs.toArray ++ news.toArray ++ Builtin.zeroCells z.cells (G - (n + m))) e (0,0)):=by
   unfold row;congr 2;apply Array.toList_inj.1;simp [hsp]
  rw [he] at this;exact this
 cases s with
 | bare a0 h0 hx0 =>
  subst h0 hx0;have hr:=fresh 0 (by omega)
  have t0 : aA [] [(w.heap.size, Obj.cells (([] : List Value).toArray ++ news.toArray ++ Builtin.zeroCells z.cells (grownCap w (0 + m) 0 e - (0 + m))) e (0, 0))] w
    (w.drew.alloc (.cells (([]:List Value).toArray ++ news.toArray ++ Builtin.zeroCells z.cells (grownCap w (0 + m) 0 e - (0 + m))) e)) :=
   (aA.refl hw).drew.alloc _
  cases a0 with
  | none =>
   have hrun:=run_append_nil (P:=P) w t ty e i z ht hi hz a m c news hlm hnews hm0 (by omega) (by simp at hbytes;omega);simp only [Nat.zero_add,Array.empty_append] at hr t0 |-;exact ⟨_,_,_,hrun,hr,t0⟩
  | some a0 =>
   have hrun:=run_append_grow (P:=P) w t ty e i z ht hi hz a0 0 0 [] (by simp) (by simp) a m c news hlm hnews (by omega) (by simp at hsmall;omega) (growslice_fits (by omega) (by simp at hbytes;simpa using hbytes));simp only [Nat.zero_add,Array.empty_append] at hr t0 hrun |-;exact ⟨_,_,_,hrun,hr,t0⟩
 | row b ms spare hx hs hm =>
  have is0:At.Is w b e [] (xs ++ spare) []:=hw.is msr;by_cases hroom:m <= ms
  ·have hmk:m * k <= spare.length:=by rw [hs];exact Nat.mul_le_mul_right _ hroom
   obtain ⟨s1,s2,rfl,hs1⟩:∃ s1 s2,spare=s1 ++ s2 /\ s1.length=m * k:=⟨spare.take (m * k),spare.drop (m * k),(List.take_append_drop _ spare).symm,by simp;omega⟩;have hs2:s2.length=(ms - m) * k:=by
    rw [lla,hs1] at hs;rw [Nat.sub_mul];omega
   have hrun:=run_append_room_cells (P:=P) w t ty e i ht hi b 0 n (n + ms) a m c news hlm hnews h1 (by omega)
    (fun j hj=>by
     have hlt:0 + n * i.size + j < (xs ++ (s1 ++ s2)).length:=by rw [hsize,lla,lla,hx,hs1];omega
     have:=is0.cell _ _ (List.getElem?_eq_getElem hlt);simp only [List.length_nil,Nat.zero_add] at this |-
     rw [this];rfl)
    (fun j hj=>is0.free _)
   rw [hsize,show 0 + n * k=xs.length by omega] at hrun;have t0:=aA.aLt (u:=w) (r:=[]) news xs s1 s2 w (aA.refl hw) (by omega);have hv:=Slk.row (k:=k) (e:=e) (n:=n + m) (xs:=xs ++ news) b (ms - m) s2 (by rw [lla,hx,hl,Nat.add_mul]) hs2 (by omega);rw [show n + m + (ms - m)=n + ms by omega] at hv;refine ⟨_,[row b e (xs ++ news ++ s2)],_,hrun,hv,?_⟩;have e2:xs ++ news ++ s2=xs ++ (news ++ s2):=by simp
   rw [e2];exact t0
  ·have hrun:=run_append_grow (P:=P) w t ty e i z ht hi hz ⟨b,0,none⟩ n (n + ms) xs (by rw [hsize];exact hx)
    (fun j u hj=>by
     have hjx:j < xs.length:=(List.getElem?_eq_some_iff.1 hj).1;have:=is0.cell j u (by rw [List.getElem?_append_left hjx];exact hj)
     rw [Addr.add_lit];simpa using this)
    a m c news hlm hnews (by omega) (by omega) (growslice_fits (by omega) hbytes)
   exact ⟨_,_,_,hrun,fresh _ (by omega),aA.forget (b:=[]) (aA.drop (b:=[_]) ((aA.refl hw).drew.alloc _))⟩
theorem Slk.at_ (s:Slk k e n xs v h) (hn:0 < n):∃ b m spare,v = .slice (some ⟨b,0,none⟩) n (n + m) /\ h=[Own.row b e (xs ++ spare)] /\ spare.length=m * k /\ n + m <= maxLen:=by
 cases s with
 | bare a h0 h1=>omega
 | row b m spare hx hs hm=>exact ⟨b,m,spare,rfl,rfl,hs,hm⟩
theorem iI {ops : Array Oper} {rest : List Oper} {o : Oper} {a : Act} {Q : Exit → Act → World → Prop} (hgd : o.guard = none) (s x : Operand) (t : TypeId)
  (ho:o.op = .call { callee:=.builtin .append,args:=#[s,x],argTypes:=#[t,t] })
  (e:TypeId) (i:TypeInfo) (z:Value) (k bytes:Nat) (ht:P.underlying t=some (.slice e)) (hi:P.info? e=some i) (hz:i.zero=some z)
  (hsize:i.size=k) (hby:i.bytes=bytes) (hzs:z.cells.size=k)
  (v:Value) (n:Nat) (xs:List Value) (h:Heap) (hs:a.eval s=v) (hv:Slk k e n xs v h) (hw:Has w h)
  (ad:Addr) (c m:Nat) (news:List Value) (hx:a.eval x = .slice (some ad) m c) (hl:news.length=m * k) (hnews:∀ j u,news[j]? = some u -> w.cell? (ad.add j)=some u) (h1:∀ u ∈ news,u.oneCell'=true) (hm0:0 < m)
  (h63:n + m <= maxLen) (hbytes:(n + m) * bytes <= 140737488355328)
  (hK:∀ ad' c' h' w',Slk k e (n + m) (xs ++ news) (.slice ad' (n + m) c') h' -> aA h h' w w' -> wpList P ops Q rest (a.put o.dst (.slice ad' (n + m) c')) w') :
  wpList P ops Q (o :: rest) a w:=by
 refine wpList_plain hgd fun K hK'=>?_
 obtain ⟨v',h',w',hr,h2,h3⟩:=kA (P:=P) t o.type i z bytes ht hi hz hsize hby hzs hv hw ad c m news hl hnews h1 hm0 h63 hbytes;obtain ⟨ad',c',rfl⟩:=h2.len;unfold Oper.wp execOp;simp only [ho,resolve,invoke,builtin,Sem.run_bind,Sem.run_pure,Result.andThen_ok,List.map_toArray,List.map_cons,List.map_nil,hs,hx,hr];exact hK' _ _ (hK _ _ _ _ h2 h3)
theorem lI {ops : Array Oper} {rest : List Oper} {o : Oper} {a : Act} {Q : Exit → Act → World → Prop} (hgd : o.guard = none) (s x : Operand) (t : TypeId)
  (ho:o.op = .call { callee:=.builtin .append,args:=#[s,x],argTypes:=#[t,t] })
  (e:TypeId) (i:TypeInfo) (z:Value) (k bytes:Nat) (ht:P.underlying t=some (.slice e)) (hi:P.info? e=some i) (hz:i.zero=some z)
  (hsize:i.size=k) (hby:i.bytes=bytes) (hzs:z.cells.size=k)
  (v:Value) (n:Nat) (xs:List Value) (h R:Heap) (hs:a.eval s=v) (hv:Slk k e n xs v h) (b:Nat) (ys:List Value) (hw:Has w (row b e ys :: (h ++ R))) (hx:a.eval x = .slice (some ⟨b,0,none⟩) 1 1) (hl:ys.length=k) (hy:∀ u ∈ ys,u.oneCell'=true)
  (h63:n + 1 <= maxLen) (hbytes:(n + 1) * bytes <= 140737488355328)
  (hK:∀ ad' c' h' w',Slk k e (n + 1) (xs ++ ys) (.slice ad' (n + 1) c') h' -> aA (row b e ys :: (h ++ R)) (row b e ys :: (h' ++ R)) w w' -> wpList P ops Q rest (a.put o.dst (.slice ad' (n + 1) c')) w') :
  wpList P ops Q (o :: rest) a w:=by
 have hw2:Has w (h ++ R):=Has.right (a:=[_]) hw;refine iI hgd s x t ho e i z k bytes ht hi hz hsize hby hzs v n xs h hs hv hw2.left ⟨b,0,none⟩ 1 1 ys hx (by omega)
  (fun j u hj=>by rw [Addr.add_lit,Nat.zero_add];exact hw.cell b e ys mcs j u hj) hy (by decide) h63 hbytes ?_
 intro ad' c' h' w' s' t';exact hK ad' c' h' w' s' (aA.cons (t'.frame hw2) hw)
theorem cC {ops : Array Oper} {o : Oper} {a : Act} {K : Act → World → Prop} {Q : Exit → Act → World → Prop} {E : Prop}
  (hg:o.guard=none) (s x:Operand) (t:TypeId) (hop:o.op=Op.call { callee:=Callee.builtin Builtin.append,args:=#[s,x],argTypes:=#[t,t] })
  (e:TypeId) (i:TypeInfo) (z:Value) (k bytes:Nat) (ht:P.underlying t=some (.slice e)) (hi:P.info? e=some i) (hz:i.zero=some z)
  (hsize:i.size=k) (hby:i.bytes=bytes) (hzs:z.cells.size=k)
  (v:Value) (n:Nat) (xs:List Value) (h R:Heap) (hs:a.eval s=v) (hv:Slk k e n xs v h) (b:Nat) (ys:List Value) (hw:Has w (row b e ys :: (h ++ R))) (hx:a.eval x = .slice (some ⟨b,0,none⟩) 1 1) (hl:ys.length=k) (hy:∀ u ∈ ys,u.oneCell'=true)
  (h63:n + 1 <= maxLen) (hbytes:(n + 1) * bytes <= 140737488355328)
  (hK:∀ ad' c' h' w',Slk k e (n + 1) (xs ++ ys) (.slice ad' (n + 1) c') h' -> aA (row b e ys :: (h ++ R)) (row b e ys :: (h' ++ R)) w w' -> K (a.put o.dst (.slice ad' (n + 1) c')) w') :
  if Region.wanted o (yielded ops a.tmps)=true then Oper.wp P o a w K Q else E:=by
 have hwd:Region.wanted o (yielded ops a.tmps)=true:=by simp [Region.wanted,hg]
 rw [ifp hwd];have hw2:Has w (h ++ R):=Has.right (a:=[_]) hw;obtain ⟨v',h',w',hr,h2,h3⟩:=kA (P:=P) t o.type i z bytes ht hi hz hsize hby hzs hv hw2.left ⟨b,0,none⟩ 1 1 ys (by omega)
  (fun j u hj=>by rw [Addr.add_lit,Nat.zero_add];exact hw.cell b e ys mcs j u hj) hy (by decide) h63 hbytes
 obtain ⟨ad',c',rfl⟩:=h2.len;unfold Oper.wp;simp [execOp,hop,resolve,invoke,builtin,hs,hx,hr,Result.andThen];exact hK _ _ _ _ h2 (aA.cons (h3.frame hw2) hw)
end
end Own
end
section
open Go.RowKit
namespace Purse
def over (n:Nat):Nat:=n - 700
def dA (l:List Nat):Nat:=(l.map over).sum
structure St where
 rest:Nat
 has:List Nat
 opn:List Bool
structure St.Fits (p:St):Prop where
 same:p.has.length=p.opn.length
 few:p.opn.length <= 8
 room:dA p.has <= p.rest
 small:p.rest <= 40000
def St.left (p:St):Nat:=p.rest - dA p.has
theorem aCn (l:List Nat) (i x:Nat) (h:i < l.length):(l.set i x).sum + l[i]=l.sum + x:=by
 induction l generalizing i with
 | nil=>simp at h
 | cons y l ih =>
  cases i with
  | zero=>simp;omega
  | succ i =>
   have h1:i < l.length:=by simpa using h
   have:=ih i h1;simp;omega
theorem aLb (l:List Nat) (i:Nat) (h:i < l.length):l[i] <= l.sum:=by
 have:=aCn l i 0 h;omega
theorem uU (l:List Nat) (i x:Nat) (h:i < l.length):dA (l.set i x) + over l[i]=dA l + over x:=by
 unfold dA;rw [List.map_set];have:=aCn (l.map over) i (over x) (by simpa using h);simpa using this
theorem lB (l:List Nat) (i:Nat) (h:i < l.length):over l[i] <= dA l:=by
 have:=aLb (l.map over) i (by simpa using h);simpa [dA] using this
theorem St.Fits.one {p:St} (f:p.Fits) (i:Nat) (h:i < p.has.length):p.has[i] <= 40700:=by
 have:=lB p.has i h;have:=f.room;have:=f.small;unfold over at *
 omega
theorem lA (l:List Nat) (k:Nat) (h:k < l.length):(l.take (k + 1)).sum=(l.take k).sum + l[k]:=by
 rw [List.take_succ_eq_append_getElem h,List.sum_append];simp
theorem wN (l:List Nat) (k:Nat):(l.take k).sum <= l.sum:=by
 have:=congrArg List.sum (List.take_append_drop k l);rw [List.sum_append] at this;omega
theorem oL (l:List Nat) (k:Nat) (h:k < l.length):dA (l.take (k + 1))=dA (l.take k) + over l[k]:=by
 unfold dA;rw [List.map_take,List.map_take,lA _ _ (by simpa using h)];simp
theorem sU (l:List Nat) (k:Nat):dA (l.take k) <= dA l:=by
 unfold dA;rw [List.map_take];exact wN _ _
def St.put (p:St) (i x:Nat):St:={ p with has:=p.has.set i x }
def St.may (p:St) (i x:Nat):Bool:=p.opn.getD i false && decide (over x <= p.left + over (p.has.getD i 0))
theorem St.Fits.put {p:St} (f:p.Fits) (i x:Nat) (h:i < p.has.length) (hm:over x <= p.left + over (p.has.getD i 0)):(p.put i x).Fits:=by
 have e:p.has.getD i 0=p.has[i]'h:=by simp [List.getD_eq_getElem?_getD,h]
 rw [e] at hm;refine ⟨(List.length_set ..).trans f.same,f.few,?_,f.small⟩;have h1:=uU p.has i x h;have h2:=f.room;show dA (p.has.set i x) <= p.rest;unfold St.left at hm;generalize dA (p.has.set i x)=A at *
 generalize dA p.has=B at *
 generalize over x=C at *
 generalize over (p.has[i]'h)=D at *
 omega
def St.cO (p:St) (i:Nat) (b:Bool):St:={ p with opn:=p.opn.set i b }
theorem St.Fits.cO {p:St} (f:p.Fits) (i:Nat) (b:Bool):(p.cO i b).Fits :=
 ⟨f.same.trans (List.length_set ..).symm,Nat.le_trans (Nat.le_of_eq (List.length_set ..)) f.few,f.room,f.small⟩
def ints (l:List Nat):List Value:=l.map fun (n:Nat)=>.int .i64 (n:Int)
def cJ (l:List Bool):List Value:=l.map .bool
end Purse
end
end Go.Proofs.YtcjflgmcjfcodaaGreat
