/- Texts of the walk, joined. -/
import Derived.Test.YtcjflgmcjfcodaaGreatM15
import Derived.Test.YtcjflgmcjfcodaaGreatM17
import Derived.Test.YtcjflgmcjfcodaaGreatM22
import Derived.Test.YtcjflgmcjfcodaaGreatM24
import Derived.Deep.RegionLaw
import Derived.Deep.RegionWith
set_option maxRecDepth 100000
set_option maxHeartbeats 8000000
namespace Go.Proofs.Tryz end Go.Proofs.Tryz
namespace Go.Proofs.YtcjflgmcjfcodaaGreat
open Go.Proofs.Tryz
section
open Go.RowKit
open Json (Part)
namespace Pip
theorem yC (p:Part):sizeOf p=1 + p.evt.text.size:=by
 cases p <;> rfl
theorem aIc (p : Part) (hm : p.may = true) (hs : sizeOf p ≤ 1001) (w : World) :
  Calls prog 128 #[p.val] w fun e w'=>e = .returned (.int .i64 (sizeOf p:Int)) /\ Below w.heap.size w w':=by
 have hp:=Json.dR p w;unfold Json.fB at hp;rw [hm,ifp rfl] at hp;obtain ⟨V,hV⟩:∃ V,V=p.val:=⟨_,rfl⟩;rw [<- hV] at hp |-;have hz:=yC p;rw [hz] at hs |-;unfold Json.Evt.val Json.Evt.cells at hp;generalize p.evt=E at hp hs hz |-;obtain ⟨a,y,m,s,c⟩:=E;simp only at hp hs |-;have HC:=hhh hp;have hsz:wrap64 (1 + (s.size:Int))=((1 + s.size:Nat):Int):=by unfold wrap64;omega
 have hcm:(1:Int) + (s.size:Int)=((1 + s.size:Nat):Int):=by omega
 have Hcm:=hhh hcm;have HB:=hhh (fun (W:World) (b:Below w.heap.size w W) (o:Obj)=>b.alloc b.size o);have hs2:s.size <= 1000:=by omega
 clear hp hV hm hz hs hsz hcm;go_enter func128,ntmps128;go_wp2_with (fail);refine HC.o.mono ?_;rintro e W1 ⟨rfl,b1⟩;go_wp2;go_ret;exact ⟨Own.dL Hcm.o,HB.o _ b1 _⟩
def aN (l:List jM):List Value:=l.flatMap fun c=>[.int .i64 (c.place:Int),.int .i64 (c.parts:Int)]
theorem fP (l r:List jM):aN (l ++ r)=aN l ++ aN r:=by simp [aN]
theorem bL (l:List jM):(aN l).length=l.length * 2:=by
 induction l with
 | nil=>rfl
 | cons c l ih=>rw [aN,List.flatMap_cons,lla];rw [aN] at ih;rw [ih];simp;omega
def Stg.cells (s:Stg) (hv ov:Value):List Value:=[.int .i64 (s.limit:Int),hv,.int .i64 (s.size:Int),ov,.int .i64 (s.e:Int)]
def Stg.Is (s:Stg) (b:Nat) (h:Own.Heap):Prop :=
 ∃ hv ov hh ho,Own.Slc 20 (aF s.held) hv hh /\ Own.Slk 2 224 s.opened.length (aN s.opened) ov ho /\ h=Own.row b 168 (s.cells hv ov) :: (hh ++ ho)
def jH (o:Stg × List Part × Nat) (b:Nat) (h:Own.Heap) (w:World) (e:Ending) (w':World):Prop :=
 ∃ v hv h',e = .returned (.tuple #[v,.int .i64 (o.2.2:Int)]) /\ Own.Slc 20 (aF o.2.1) v hv /\ o.1.Is b h' /\ Own.aA h (hv ++ h') w w'
theorem aI (l:List Part):(aF l).length=l.length:=List.length_map ..
theorem dG (l r:List Part):aF (l ++ r)=aF l ++ aF r:=List.map_append ..
section
variable {s:Stg} {b:Nat} {h:Own.Heap} {w:World}
theorem Stg.Is.cV (hi : s.Is b h) : ∃ ha hc oa oc hh ho, h = Own.row b 168 (s.cells (.slice ha s.held.length hc) (.slice oa s.opened.length oc)) :: (hh ++ ho) ∧
  Own.Slc 20 (aF s.held) (.slice ha s.held.length hc) hh /\ Own.Slk 2 224 s.opened.length (aN s.opened) (.slice oa s.opened.length oc) ho:=by
 obtain ⟨hv,ov,hh,ho,h1,h2,rfl⟩:=hi;obtain ⟨ha,hc,rfl⟩:=h1.len;obtain ⟨oa,oc,rfl⟩:=h2.len;rw [aI] at h1 |-;exact ⟨ha,hc,oa,oc,hh,ho,rfl,h1,h2⟩
theorem xX (hi : s.Is b h) (hw : Own.Has w h) :
  Calls prog 83 #[.pointer (some ⟨b,0,none⟩)] w fun e w'=>e = .returned (.int .i64 (s.size:Int)) /\ w=w':=by
 obtain ⟨ha,hc,oa,oc,hh,ho,rfl,h1,h2⟩:=hi.cV;have c2:=hw.cell b _ _ mcs 2 _ rfl;clear hi hw h1 h2;go_enter func83,ntmps83;go_wp2;go_ret;exact ⟨rfl,rfl⟩
theorem zY (n : Nat) (hn : n ≤ 2000) (w : World) :
  Calls prog 93 #[.int .i64 (n:Int)] w fun e w'=>∃ b h,e = .returned (.pointer (some ⟨b,0,none⟩)) /\ (Stg.new n).Is b h /\ Own.aA [] h w w':=by
 have hI:=hhh (show (Stg.new n).Is w.heap.size (Own.row w.heap.size 168 ((Stg.new n).cells (.slice none 0 0) (.slice none 0 0)) :: []) from ⟨_,_,[],[],.bare none rfl,.bare none rfl rfl,rfl⟩);have hT:=hhh ((Own.aA.refl (Own.Has.nil w)).aP w.heap.size rfl 168 ((Stg.new n).cells (.slice none 0 0) (.slice none 0 0)));have l1:max (n:Int) 0=(n:Int):=by omega
 have l2:min (n:Int) 2000=(n:Int):=by omega
 have l3:(if (n:Int) < 0 then (0:Int) else (n:Int))=(n:Int):=by rw [ifn (by omega)]
 have l4:(if (2000:Int) < (n:Int) then (2000:Int) else (n:Int))=(n:Int):=by rw [ifn (by omega)]
 have l5:¬ (n:Int) < 0:=by omega
 have l6:¬ (2000:Int) < (n:Int):=by omega
 clear hn;go_enter func93,ntmps93;go_wp2;go_ret;exact ⟨_,rfl,_,hI.o,hT.o⟩
theorem iT (hi : s.Is b h) (hw : Own.Has w h) (v : Part) (hm : v.may = true) (hs : sizeOf v ≤ 1001) (h2 : s.size ≤ 2000) (h3 : s.held.length ≤ 2000) :
  Calls prog 123 #[.pointer (some ⟨b,0,none⟩),v.val] w fun e w'=>e = .returned (.int .i64 ((s.hold v).2:Int)) /\ ∃ h',(s.hold v).1.Is b h' /\ Own.aA h h' w w':=by
 obtain ⟨i0,hi0,e0⟩:=Option.map_eq_some_iff.1 infoAny;simp only [Prod.mk.injEq] at e0;obtain ⟨hz,hsz,hby⟩:=e0;have Hi:=hhh (ai hi0 (ai hz (ai hsz hby)));have HSz:=hhh (fun u=>aIc v hm hs u);have HP0:s.hold v=if s.limit < s.size + sizeOf v then (⟨0,[],0,[],10⟩,10) else (⟨s.limit,s.held ++ [v],s.size + sizeOf v,s.opened,s.e⟩,s.e):=rfl
 generalize s.hold v=O at HP0 |-;obtain ⟨ha,hc,oa,oc,hh,ho,rfl,g1,g2⟩:=hi.cV;have c1:=hw.cell b _ _ mcs 1 _ rfl;have HS:=hhh g1;have HK:=hhh g2;have HMl:=hhh (aI s.held);have HW:=hhh (show Own.Has w (hh ++ (Own.row b 168 (s.cells (.slice ha s.held.length hc) (.slice oa s.opened.length oc)) :: ho)) from hw.perm (Own.aE _ _ fun x=>by simp only [List.count_append,List.count_cons];omega))
 have Hpm:=hhh (fun hh':Own.Heap=>(show (hh' ++ (Own.row b 168 (s.cells (.slice ha s.held.length hc) (.slice oa s.opened.length oc)) :: ho)).Perm (Own.row b 168 (s.cells (.slice ha s.held.length hc) (.slice oa s.opened.length oc)) :: (hh' ++ ho)) from
  Own.aE _ _ fun x=>by simp only [List.count_append,List.count_cons];omega))
 obtain ⟨Z,hZ⟩:∃ Z,Z=sizeOf v:=⟨_,rfl⟩;rw [<- hZ] at HSz HP0 hs;obtain ⟨Q,hQ⟩:∃ Q,Q=s.size + Z:=⟨_,rfl⟩;rw [<- hQ] at HP0;have hQw:wrap64 ((s.size:Int) + (Z:Int))=(Q:Int):=by unfold wrap64;omega
 have hQe:(s.size:Int) + (Z:Int)=(Q:Int):=by omega
 have hQ3:IntKind.i64.wrap (Q:Int)=(Q:Int):=by rw [IntKind.wrap_i64];omega
 have HPh:=hhh HP0;have Hv1:=hhh (fun V (hV:V=v.val)=>(show aF (s.held ++ [v])=aF s.held ++ [V] by rw [hV,dG];rfl));clear hi hw g1 g2 hi0 hz hsz hby HP0 hZ hQ hm hs h2;rcases eR v with hY | ⟨T0,y0,hY⟩
 all_goals
  have HY:=hhh (Hv1.o _ hY.symm);rw [hY] at HSz;rw [hY];clear hY Hv1;go_enter func123,ntmps123;go_wp2_with (at_builtin;go_loud (refine Own.bQ w.heap.size rfl rfl _ _ 129 rfl 20 i0 .nilIface 16 underlying129 Hi.o.1 Hi.o.2.1 Hi.o.2.2.1 Hi.o.2.2.2 rfl (.slice ha s.held.length hc) (aF s.held) s.held.length HMl.o hh _ rfl HS.o HW.o _ rfl rfl ?c1 ?c2 ?_))
  case c1=>simp only [maxLen];omega
  case c2=>omega
  intro ad' c' h' w1 hs' ht';have S1:=hhh (show Own.Slc 20 (aF (s.held ++ [v])) (.slice ad' (s.held.length + 1) c') h' by rw [HY.o];exact hs');have T1:=hhh (ht'.perm (Hpm.o hh) (Hpm.o h'));have d1:=T1.o.has.cell b _ _ mcs 1 _ rfl;have f1:=T1.o.has.free b _ _ mcs 1
  have T2:=hhh (show Own.aA (Own.row b 168 (s.cells (.slice ha s.held.length hc) (.slice oa s.opened.length oc)) :: (hh ++ ho)) (Own.row b 168 (s.cells (.slice ad' (s.held.length + 1) c') (.slice oa s.opened.length oc)) :: (h' ++ ho)) w (w1.setCell ⟨b,1,none⟩ (.slice ad' (s.held.length + 1) c')) from
   T1.o.put 1 _ _ rfl)
  have k2:=T1.o.has.cell b _ _ mcs 2 _ rfl;have kf:=T1.o.has.free b _ _ mcs 2;clear hs' ht' HW HS Hpm c1;go_wp2_with (fail);go_region_with (go_at_call 128;refine (HSz.o _).mono ?_;rintro e W ⟨rfl,bW⟩;have TW:=hhh ((T2.o.drewN _).trans (Own.aA.aJ (T2.o.drewN _).has bW));have k2:=TW.o.has.cell b _ _ mcs 2 _ rfl;have kf:=TW.o.has.free b _ _ mcs 2)
  all_goals
   have T3:=hhh (show Own.aA (Own.row b 168 (s.cells (.slice ha s.held.length hc) (.slice oa s.opened.length oc)) :: (hh ++ ho)) (Own.row b 168 [.int .i64 (s.limit:Int),.slice ad' (s.held.length + 1) c',.int .i64 (Q:Int),.slice oa s.opened.length oc,.int .i64 (s.e:Int)] :: (h' ++ ho)) w (W.setCell ⟨b,2,none⟩ (.int .i64 (Q:Int))) from
    TW.o.put 2 (.int .i64 (Q:Int)) _ rfl)
   have m0:=TW.o.has.cell b _ _ mcs 0 _ rfl;have m1:=TW.o.has.cell b _ _ mcs 1 _ rfl;have m3:=TW.o.has.cell b _ _ mcs 3 _ rfl;have m4:=TW.o.has.cell b _ _ mcs 4 _ rfl;have n0:=TW.o.has.free b _ _ mcs 0;have n1:=TW.o.has.free b _ _ mcs 1;have n3:=TW.o.has.free b _ _ mcs 3;have n4:=TW.o.has.free b _ _ mcs 4;by_cases hlt:s.limit < Q
   ·have HP:=hhh (HPh.o.trans (ifp hlt))
    have hltI:(s.limit:Int) < (Q:Int):=by omega
    clear HPh hlt;go_wp2;go_quiet (fail);go_wp2;go_ret;refine ⟨by rw [HP.o];rfl,[Own.row b 168 [.int .i64 0,.slice none 0 0,.int .i64 0,.slice none 0 0,.int .i64 10]],?_,?_⟩
    ·rw [HP.o]
     exact ⟨_,_,[],[],.bare none rfl,.bare none rfl rfl,rfl⟩
    ·exact Own.aA.drop (b:=[_]) (((((((T3.o.drewN _).put 0 (.int .i64 0) _ rfl).put 1 (.slice none 0 0) _ rfl).put 2 (.int .i64 0) _ rfl).put 3 (.slice none 0 0) _ rfl).put 4 (.int .i64 10) _ rfl))
   ·have HP:=hhh (HPh.o.trans (ifn hlt))
    have hltI:¬ (s.limit:Int) < (Q:Int):=by omega
    clear HPh hlt;go_wp2;go_quiet (fail);go_wp2;go_ret;rw [HP.o];refine ⟨rfl,_,⟨.slice ad' (s.held.length + 1) c',.slice oa s.opened.length oc,h',ho,S1.o,HK.o,rfl⟩,T3.o.drewN _⟩
end
end Pip
end
section
open Go.RowKit
open Json (Part)
namespace Own
theorem Slc.at_ {e : TypeId} {xs : List Value} {v : Value} {h : Heap} (s : Slc e xs v h) (hn : 0 < xs.length) :
  ∃ hb pre spare,v = .slice (some ⟨hb,pre.length,none⟩) xs.length (xs.length + spare.length) /\ h=[Own.row hb e (pre ++ (xs ++ spare))] /\ xs.length + spare.length <= maxLen:=by
 cases s with
 | bare a h0=>subst h0;simp at hn
 | row hb pre spare hm=>exact ⟨hb,pre,spare,rfl,rfl,hm⟩
end Own
namespace Pip
section
variable {s:Stg} {b:Nat} {h:Own.Heap} {w:World}
theorem Stg.Is.last (hi : s.Is b h) (L : List jM) (c : jM) (hl : s.opened = L ++ [c]) :
  ∃ ha hc ob m spare hh,h=Own.row b 168 (s.cells (.slice ha s.held.length hc) (.slice (some ⟨ob,0,none⟩) (L.length + 1) (L.length + 1 + m))) :: (hh ++ [Own.row ob 224 (aN L ++ ([.int .i64 (c.place:Int),.int .i64 (c.parts:Int)] ++ spare))]) /\
   spare.length=m * 2 /\ L.length + 1 + m <= maxLen /\ Own.Slc 20 (aF s.held) (.slice ha s.held.length hc) hh:=by
 obtain ⟨ha,hc,oa,oc,hh,ho,rfl,h1,h2⟩:=hi.cV;rw [hl,lla,List.length_singleton,fP] at h2;obtain ⟨ob,m,spare,e1,rfl,h3,h4⟩:=h2.at_ (by omega);injection e1 with e2 e3 e4
 subst e2 e4;refine ⟨ha,hc,ob,m,spare,hh,?_,h3,h4,h1⟩;rw [hl,lla,List.length_singleton,List.append_assoc];rfl
theorem kD (P:Part):∃ m n is,P.inBegin = .agg #[.bool m,.int .i64 n] /\ P.isBegin=is /\ (is=true -> P = .aG m n) /\ (is=false -> ∀ m' n',P ≠ .aG m' n'):=by
 cases P with
 | aG m c=>exact ⟨m,c,true,rfl,rfl,(fun _=>rfl),fun h=>by cases h⟩
 | _=>exact ⟨false,0,false,rfl,rfl,(fun h=>by cases h),fun _ _ _ h=>by cases h⟩
theorem fS (hi : s.Is b h) (hw : Own.Has w h) (hf : s.Fits) (L : List jM) (c : jM) (hl : s.opened = L ++ [c]) :
  Calls prog 122 #[.pointer (some ⟨b,0,none⟩)] w (jH s.close b h w):=by
 have hm:=hf.places c (by rw [hl];simp);have hz:=hf.size;have hlim:=hf.limit;have hhl:=hf.held;have hol:=hf.opened;obtain ⟨P,hP⟩:∃ P,s.held[c.place]? = some P:=⟨_,List.getElem?_eq_getElem hm.1⟩;have aB:=Json.eP P;obtain ⟨m0,n0,is,e1,e2,e3,e4⟩:=kD P;rw [e1,e2] at aB;obtain ⟨V,hV⟩:∃ V,V=P.val:=⟨_,rfl⟩;rw [<- hV] at aB;have hcell:(aF s.held)[c.place]? = some V:=by unfold aF;rw [List.getElem?_map,hP,hV];rfl
 obtain ⟨ha,hc,ob,m,spare,hh,rfl,h1,h2,h3⟩:=hi.last L c hl;obtain ⟨hb,pre,sp,g1,rfl,hmx⟩:=h3.at_ (by rw [aI];omega);rw [aI] at g1 hmx;injection g1 with g2 g3 g4
 subst g2 g4;have hN:L.length < 2000:=by rw [hl] at hol;simp at hol;omega
 obtain ⟨N,hNe⟩:∃ N,N=L.length:=⟨_,rfl⟩;obtain ⟨Q,hQ⟩:∃ Q,Q=s.held.length:=⟨_,rfl⟩;obtain ⟨o,ho⟩:∃ o,o=pre.length:=⟨_,rfl⟩;have hlt:=hw.cL;have hb2:hb < w.heap.size:=hw.lt (b:=hb) (by simp [Own.blocks]);have HW:=hhh hw;have q1:=hw.cell b _ _ mcs 1 _ rfl;have q3:=hw.cell b _ _ mcs 3 _ rfl;have fr3:=hw.free b _ _ mcs 3;have p0:=hw.cell ob _ _ (mcm _ (List.mem_append_right _ msr)) (L.length * 2) (.int .i64 (c.place:Int)) (by rw [<- bL,List.getElem?_append_right (by omega)];simp);have p1:=hw.cell ob _ _ (mcm _ (List.mem_append_right _ msr)) (L.length * 2 + 1) (.int .i64 (c.parts:Int)) (by rw [<- bL,List.getElem?_append_right (by omega)];simp)
 have v1:=hw.cell hb _ _ (mcm _ (List.mem_append_left _ msr)) (pre.length + c.place) V (by
  rw [List.getElem?_append_right (by omega),Nat.add_sub_cancel_left,List.getElem?_append_left (by rw [aI];omega)];exact hcell)
 have vf:=hw.free hb _ _ (mcm _ (List.mem_append_left _ msr)) (pre.length + c.place);rw [<- hNe] at q3 p0 p1 hN HW h2;rw [<- hQ] at q1 hm HW hmx hhl;rw [<- ho] at q1 v1 vf HW;rw [<- hNe,<- hQ,<- ho];have HNe:=hhh hNe;have HQ:=hhh hQ;have Ho:=hhh ho;have u3:=fun x=>(Own.aA.aD (Own.aA.refl HW.o) x).has.cell b _ _ mcs 3 _ rfl
 have u3f:=fun x=>(Own.aA.aD (Own.aA.refl HW.o) x).has.free b _ _ mcs 3
 have Hcell:=hhh hcell;have htop:((N + 1:Nat):Int) - 1=(N:Int):=by omega
 have hne:¬ b=w.heap.size:=by omega
 have hne':¬ w.heap.size=b:=by omega
 have hpl:(c.place:Int) < (Q:Int):=by omega
 have hneh:¬ hb=w.heap.size:=by omega
 have hneh':¬ w.heap.size=hb:=by omega
 have HV:=hhh hV;have HPg:=hhh hP;have HSp:=hhh h1;have Hol:=hhh (show s.opened.length=L.length + 1 by rw [hl];simp);obtain ⟨i0,hi0,e0⟩:=Option.map_eq_some_iff.1 infoAny;simp only [Prod.mk.injEq] at e0;obtain ⟨hz',hsz,hby⟩:=e0;have Hi:=hhh (ai hi0 (ai hz' (ai hsz hby)))
 have HCl:=hhh (show (1 < s.opened.length -> s.close=(((Stg.mk s.limit (aT s.held c) s.size L s.e).hold .close).1,[],((Stg.mk s.limit (aT s.held c) s.size L s.e).hold .close).2)) /\ (¬ 1 < s.opened.length -> s.close=(⟨s.limit,[],0,L,s.e⟩,aT s.held c ++ [.close],0)) by
  have hgl:s.opened.getLast? = some c:=by rw [hl];simp
  have hdl:s.opened.dropLast=L:=by rw [hl];simp
  unfold Stg.close;rw [hgl];simp only;rw [hdl]
  exact ⟨fun h=>ifp h,fun h=>ifn h⟩)
 clear hi0 hz' hsz hby;clear hi hw hf hNe hQ ho hlt hb2 hP hcell e1 e2 h1 h3 hl hV;go_enter func122,ntmps122;go_wp2_with (fail)
 have T3:=hhh (show Own.aA _ ((Own.row b 168 (s.cells (.slice (some ⟨hb,o,none⟩) Q (Q + sp.length)) (.slice (some ⟨ob,0,none⟩) N (N + 1 + m)))) :: ([Own.row hb 20 (pre ++ (aF s.held ++ sp))] ++ [Own.row ob 224 (aN L ++ ([.int .i64 (c.place:Int),.int .i64 (c.parts:Int)] ++ spare)),Own.row w.heap.size 224 [.int .i64 (c.place:Int),.int .i64 (c.parts:Int)]])) w ((w.alloc (.cells #[.int .i64 (c.place:Int),.int .i64 (c.parts:Int)] 224)).setCell ⟨b,3,none⟩ (.slice (some ⟨ob,0,none⟩) N (N + 1 + m))) from
  (((Own.aA.refl HW.o).aP w.heap.size rfl 224 [.int .i64 (c.place:Int),.int .i64 (c.parts:Int)]).perm (.refl _) (Own.aE _ (Own.row b 168 (s.cells (.slice (some ⟨hb,o,none⟩) Q (Q + sp.length)) (.slice (some ⟨ob,0,none⟩) (N + 1) (N + 1 + m))) :: ([Own.row hb 20 (pre ++ (aF s.held ++ sp))] ++ [Own.row ob 224 (aN L ++ ([.int .i64 (c.place:Int),.int .i64 (c.parts:Int)] ++ spare)),Own.row w.heap.size 224 [.int .i64 (c.place:Int),.int .i64 (c.parts:Int)]]))
   fun x=>by simp only [List.count_append,List.count_cons,List.count_nil];omega)).put 3 (.slice (some ⟨ob,0,none⟩) N (N + 1 + m)) _ rfl)
 have hvc:(pre ++ (aF s.held ++ sp))[o + c.place]? = some V:=by
  rw [Ho.o,List.getElem?_append_right (by omega),Nat.add_sub_cancel_left,List.getElem?_append_left (by rw [aI];have:=HQ.o;omega)];exact Hcell.o
 have r1:=fun x=>(T3.o.aD x).has.cell b _ _ mcs 1 _ rfl
 have r10:=T3.o.has.cell b _ _ mcs 1 _ rfl;have rv:=fun x=>(T3.o.aD x).has.cell hb _ _ (mcm _ (List.mem_append_left _ msr)) (o + c.place) V hvc
 have rv0:=T3.o.has.cell hb _ _ (mcm _ (List.mem_append_left _ msr)) (o + c.place) V hvc;have hsz3:((w.alloc (.cells #[.int .i64 (c.place:Int),.int .i64 (c.parts:Int)] 224)).setCell ⟨b,3,none⟩ (.slice (some ⟨ob,0,none⟩) N (N + 1 + m))).heap.size=w.heap.size + 1:=by rw [Own.aY,Json.size_alloc]
 have Hsz3:=hhh hsz3;clear hsz3;go_region;have T4:=hhh ((T3.o.aP (w.heap.size + 1) Hsz3.o 218 [.bool m0,.int .i64 n0]).drew);have rf:=fun x=>(T3.o.aD x).has.free hb 20 (pre ++ (aF s.held ++ sp)) (by simp) (o + c.place)
 clear r10 rv0 q1 q3 fr3 p0 p1 v1 vf u3 u3f aB;have y0:=fun x=>(((T3.o.aD x).drew).has.cell w.heap.size 224 [.int .i64 (c.place:Int),.int .i64 (c.parts:Int)] (by simp) 0 _ rfl)
 have y1:=fun x=>(((T3.o.aD x).drew).has.cell w.heap.size 224 [.int .i64 (c.place:Int),.int .i64 (c.parts:Int)] (by simp) 1 _ rfl)
 have HPc0:(1 < s.opened.length -> s.close=(((Stg.mk s.limit (aT s.held c) s.size L s.e).hold .close).1,[],((Stg.mk s.limit (aT s.held c) s.size L s.e).hold .close).2)) /\ (¬ 1 < s.opened.length -> s.close=(⟨s.limit,[],0,L,s.e⟩,aT s.held c ++ [.close],0)):=HCl.o;rw [Hol.o] at HPc0;have HPc:=hhh (show (0 < L.length -> s.close=(((Stg.mk s.limit (aT s.held c) s.size L s.e).hold .close).1,[],((Stg.mk s.limit (aT s.held c) s.size L s.e).hold .close).2)) /\ (L.length=0 -> s.close=(⟨s.limit,[],0,L,s.e⟩,aT s.held c ++ [.close],0)) from ⟨fun h=>HPc0.1 (by omega),fun h=>HPc0.2 (by omega)⟩);clear HPc0;by_cases hcase:is=true /\ n0 < 0
 ·obtain ⟨rfl,hn0⟩:=hcase
  have hPb:=e3 rfl;have hct:aT s.held c=s.held.set c.place (.aG m0 ((if m0 then c.parts / 2 else c.parts:Nat):Int)):=by
   unfold aT;rw [HPg.o,hPb];simp only;rw [ifp hn0]
  have Hct:=hhh hct;obtain ⟨D,hD⟩:∃ D,D=c.parts / 2:=⟨_,rfl⟩;have hpw:wrap64 (D:Int)=(D:Int):=by unfold wrap64;omega
  have hq1:=aKx c.parts;have hq2:=aHq c.parts;rw [<- hD] at hq1 hq2 Hct;clear hPb e3 e4 hct hD
  cases m0
  ·go_wp2_with (fail)
   go_region;have T5:=hhh (show Own.aA _ (Own.row (w.heap.size + 1) 218 [.bool false,.int .i64 (c.parts:Int)] :: ((Own.row b 168 (s.cells (.slice (some ⟨hb,o,none⟩) Q (Q + sp.length)) (.slice (some ⟨ob,0,none⟩) N (N + 1 + m)))) :: ([Own.row hb 20 (pre ++ (aF s.held ++ sp))] ++ [Own.row ob 224 (aN L ++ ([.int .i64 (c.place:Int),.int .i64 (c.parts:Int)] ++ spare)),Own.row w.heap.size 224 [.int .i64 (c.place:Int),.int .i64 (c.parts:Int)]]))) w (((w.alloc (.cells #[.int .i64 (c.place:Int),.int .i64 (c.parts:Int)] 224)).setCell ⟨b,3,none⟩ (.slice (some ⟨ob,0,none⟩) N (N + 1 + m))).alloc (.cells #[.bool false,.int .i64 (c.parts:Int)] 218)) from (T3.o.aP (w.heap.size + 1) Hsz3.o 218 [.bool false,.int .i64 (c.parts:Int)]))
   have T5b:=hhh (show Own.aA _ ((Own.row b 168 (s.cells (.slice (some ⟨hb,o,none⟩) Q (Q + sp.length)) (.slice (some ⟨ob,0,none⟩) N (N + 1 + m)))) :: ([Own.row hb 20 (pre ++ (aF (aT s.held c) ++ sp))] ++ [Own.row ob 224 (aN L ++ ([.int .i64 (c.place:Int),.int .i64 (c.parts:Int)] ++ spare))])) w ((((((w.alloc (.cells #[.int .i64 (c.place:Int),.int .i64 (c.parts:Int)] 224)).setCell ⟨b,3,none⟩ (.slice (some ⟨ob,0,none⟩) N (N + 1 + m))).alloc (.cells #[.bool false,.int .i64 (c.parts:Int)] 218)).setCell ⟨hb,o + c.place,none⟩ (.iface 218 (.agg #[.bool false,.int .i64 (c.parts:Int)]))).drew).drew) by
    have t0:=((Own.aA.setAt [_,_] T5.o (o + c.place) (.iface 218 (.agg #[.bool false,.int .i64 (c.parts:Int)])) (by rw [Ho.o];simp [aI];have:=HQ.o;omega)).drew).drew;have e:(pre ++ (aF s.held ++ sp)).set (o + c.place) (.iface 218 (.agg #[.bool false,.int .i64 (c.parts:Int)]))=pre ++ (aF (aT s.held c) ++ sp):=by
     rw [Ho.o,Own.aBq _ _ _ _ _ (by rw [aI];have:=HQ.o;omega),Hct.o];unfold aF;rw [List.map_set];rfl
    rw [e] at t0
    exact ((t0.perm (.refl _) (Own.aE _ (((Own.row b 168 (s.cells (.slice (some ⟨hb,o,none⟩) Q (Q + sp.length)) (.slice (some ⟨ob,0,none⟩) N (N + 1 + m)))) :: ([Own.row hb 20 (pre ++ (aF (aT s.held c) ++ sp))] ++ [Own.row ob 224 (aN L ++ ([.int .i64 (c.place:Int),.int .i64 (c.parts:Int)] ++ spare))])) ++ [Own.row (w.heap.size + 1) 218 [.bool false,.int .i64 (c.parts:Int)],Own.row w.heap.size 224 [.int .i64 (c.place:Int),.int .i64 (c.parts:Int)]]) fun x=>by simp only [List.append_eq,List.nil_append,List.count_append,List.count_cons,List.count_nil];omega))).drop)
   clear T5 T4 T3 y0 y1 r1 rv rf;rcases Nat.eq_zero_or_pos N with hN0 | hN0
   ·have HP:=hhh (HPc.o.2 (by have:=HNe.o;omega))
    subst hN0
    have HS5:=hhh (show Own.Slc 20 (aF (aT s.held c)) (.slice (some ⟨hb,o,none⟩) Q (Q + sp.length)) [Own.row hb 20 (pre ++ (aF (aT s.held c) ++ sp))] by
     have:=Own.Slc.row (e:=20) (xs:=aF (aT s.held c)) hb pre sp (by rw [aI,bG,<- HQ.o];exact hmx);rw [aI,bG,<- HQ.o,<- Ho.o] at this
     exact this)
    have T6:=hhh (T5b.o.perm (.refl _) (Own.aE _ ([Own.row hb 20 (pre ++ (aF (aT s.held c) ++ sp))] ++ ((Own.row b 168 (s.cells (.slice (some ⟨hb,o,none⟩) Q (Q + sp.length)) (.slice (some ⟨ob,0,none⟩) 0 (0 + 1 + m)))) :: [Own.row ob 224 (aN L ++ ([.int .i64 (c.place:Int),.int .i64 (c.parts:Int)] ++ spare))])) fun x=>by simp only [List.count_append,List.count_cons,List.count_nil];omega));have g1:=T6.o.has.cell b 168 _ (List.mem_append_right _ mcs) 1 _ rfl;go_wp2_with (at_builtin;go_loud (refine Own.bQ (w.heap.size + 1 + 1) (by show (World.setCell _ _ _).heap.size=_;rw [Own.aY,Json.size_alloc,Own.aY,Json.size_alloc]) rfl _ _ 129 rfl 20 i0 .nilIface 16 underlying129 Hi.o.1 Hi.o.2.1 Hi.o.2.2.1 Hi.o.2.2.2 rfl (.slice (some ⟨hb,o,none⟩) Q (Q + sp.length)) (aF (aT s.held c)) Q (by rw [aI,bG,<- HQ.o]) [Own.row hb 20 (pre ++ (aF (aT s.held c) ++ sp))] _ rfl HS5.o T6.o.has _ rfl rfl ?c1 ?c2 ?_))
    case c1=>simp only [maxLen];omega
    case c2=>omega
    intro ad' c' h' w1 hs' ht';have S7:=hhh (show Own.Slc 20 (aF ((aT s.held c) ++ [.close])) (.slice ad' (Q + 1) c') h' by rw [dG];exact hs');have T7:=hhh (T6.o.trans ht');have k1:=T7.o.has.cell b 168 _ (List.mem_append_right _ mcs) 1 _ rfl;have k2:=T7.o.has.cell b 168 _ (List.mem_append_right _ mcs) 2 _ rfl;have kf1:=T7.o.has.free b 168 _ (List.mem_append_right _ mcs) 1;have kf2:=T7.o.has.free b 168 _ (List.mem_append_right _ mcs) 2;clear hs' ht';go_wp2;go_ret2;rw [HP.o];have hL0:L=[]:=List.eq_nil_of_length_eq_zero HNe.o.symm;subst hL0
    have T8:=hhh (show Own.aA _ (Own.row b 168 [.int .i64 (s.limit:Int),.slice none 0 0,.int .i64 0,.slice (some ⟨ob,0,none⟩) 0 (0 + 1 + m),.int .i64 (s.e:Int)] :: ([Own.row ob 224 (aN [] ++ ([.int .i64 (c.place:Int),.int .i64 (c.parts:Int)] ++ spare))] ++ h')) w _ from
     ((T7.o.perm (.refl _) List.perm_append_comm).put 1 (.slice none 0 0) _ rfl).put 2 (.int .i64 0) _ rfl)
    refine ⟨_,h',Own.row b 168 [.int .i64 (s.limit:Int),.slice none 0 0,.int .i64 0,.slice (some ⟨ob,0,none⟩) 0 (0 + 1 + m),.int .i64 (s.e:Int)] :: ([] ++ [Own.row ob 224 (aN [] ++ ([.int .i64 (c.place:Int),.int .i64 (c.parts:Int)] ++ spare))]),rfl,S7.o,⟨.slice none 0 0,.slice (some ⟨ob,0,none⟩) 0 (0 + 1 + m),[],[_],.bare none rfl,?_,rfl⟩,
     T8.o.perm (.refl _) (Own.aE _ _ fun x=>by simp only [List.nil_append,List.count_append,List.count_cons,List.count_nil];omega)⟩
    have:=Own.Slk.row (k:=2) (e:=224) (n:=0) (xs:=[]) ob (m + 1) ([.int .i64 (c.place:Int),.int .i64 (c.parts:Int)] ++ spare) rfl (by have:=HSp.o;simp;omega) (by omega);rw [show 0 + (m + 1)=0 + 1 + m by omega] at this;exact this
   ·have HP:=hhh (HPc.o.1 (by have:=HNe.o;omega))
    have hN0I:(0:Int) < (N:Int):=by omega
    have HId:=hhh (show (Stg.mk s.limit (aT s.held c) s.size L s.e).Is b ((Own.row b 168 (s.cells (.slice (some ⟨hb,o,none⟩) Q (Q + sp.length)) (.slice (some ⟨ob,0,none⟩) N (N + 1 + m)))) :: ([Own.row hb 20 (pre ++ (aF (aT s.held c) ++ sp))] ++ [Own.row ob 224 (aN L ++ ([.int .i64 (c.place:Int),.int .i64 (c.parts:Int)] ++ spare))])) from
     ⟨.slice (some ⟨hb,o,none⟩) Q (Q + sp.length),.slice (some ⟨ob,0,none⟩) N (N + 1 + m),[_],[_],by
      have:=Own.Slc.row (e:=20) (xs:=aF (aT s.held c)) hb pre sp (by rw [aI,bG,<- HQ.o];exact hmx);rw [aI,bG,<- HQ.o,<- Ho.o] at this;exact this,by
      have:=Own.Slk.row (k:=2) (e:=224) (n:=N) (xs:=aN L) ob (m + 1) ([.int .i64 (c.place:Int),.int .i64 (c.parts:Int)] ++ spare) (by rw [bL,HNe.o]) (by have:=HSp.o;simp;omega) (by omega);rw [show N + (m + 1)=N + 1 + m by omega] at this;rw [HNe.o] at this |-
      exact this,rfl⟩)
    have HHo:=hhh (iT HId.o T5b.o.has .close rfl (by decide) (show s.size <= 2000 by omega) (show ((aT s.held c)).length <= 2000 by rw [bG,<- HQ.o];omega));go_wp2_with (fail);refine HHo.o.mono ?_;rintro e w6 ⟨rfl,h6,i6,t6⟩;have HI6:=hhh i6;have T6:=hhh (T5b.o.trans t6);clear i6 t6;go_wp2;go_ret2;rw [HP.o];exact ⟨_,[],h6,rfl,.bare none rfl,HI6.o,T6.o⟩
  ·go_wp2_with (fail)
   go_region;have T5:=hhh (show Own.aA _ (Own.row (w.heap.size + 1) 218 [.bool true,.int .i64 (D:Int)] :: ((Own.row b 168 (s.cells (.slice (some ⟨hb,o,none⟩) Q (Q + sp.length)) (.slice (some ⟨ob,0,none⟩) N (N + 1 + m)))) :: ([Own.row hb 20 (pre ++ (aF s.held ++ sp))] ++ [Own.row ob 224 (aN L ++ ([.int .i64 (c.place:Int),.int .i64 (c.parts:Int)] ++ spare)),Own.row w.heap.size 224 [.int .i64 (c.place:Int),.int .i64 (c.parts:Int)]]))) w (((w.alloc (.cells #[.int .i64 (c.place:Int),.int .i64 (c.parts:Int)] 224)).setCell ⟨b,3,none⟩ (.slice (some ⟨ob,0,none⟩) N (N + 1 + m))).alloc (.cells #[.bool true,.int .i64 (D:Int)] 218)) from (T3.o.aP (w.heap.size + 1) Hsz3.o 218 [.bool true,.int .i64 (D:Int)]))
   have T5b:=hhh (show Own.aA _ ((Own.row b 168 (s.cells (.slice (some ⟨hb,o,none⟩) Q (Q + sp.length)) (.slice (some ⟨ob,0,none⟩) N (N + 1 + m)))) :: ([Own.row hb 20 (pre ++ (aF (aT s.held c) ++ sp))] ++ [Own.row ob 224 (aN L ++ ([.int .i64 (c.place:Int),.int .i64 (c.parts:Int)] ++ spare))])) w ((((((w.alloc (.cells #[.int .i64 (c.place:Int),.int .i64 (c.parts:Int)] 224)).setCell ⟨b,3,none⟩ (.slice (some ⟨ob,0,none⟩) N (N + 1 + m))).alloc (.cells #[.bool true,.int .i64 (D:Int)] 218)).setCell ⟨hb,o + c.place,none⟩ (.iface 218 (.agg #[.bool true,.int .i64 (D:Int)]))).drew).drew) by
    have t0:=((Own.aA.setAt [_,_] T5.o (o + c.place) (.iface 218 (.agg #[.bool true,.int .i64 (D:Int)])) (by rw [Ho.o];simp [aI];have:=HQ.o;omega)).drew).drew;have e:(pre ++ (aF s.held ++ sp)).set (o + c.place) (.iface 218 (.agg #[.bool true,.int .i64 (D:Int)]))=pre ++ (aF (aT s.held c) ++ sp):=by
     rw [Ho.o,Own.aBq _ _ _ _ _ (by rw [aI];have:=HQ.o;omega),Hct.o];unfold aF;rw [List.map_set];rfl
    rw [e] at t0
    exact ((t0.perm (.refl _) (Own.aE _ (((Own.row b 168 (s.cells (.slice (some ⟨hb,o,none⟩) Q (Q + sp.length)) (.slice (some ⟨ob,0,none⟩) N (N + 1 + m)))) :: ([Own.row hb 20 (pre ++ (aF (aT s.held c) ++ sp))] ++ [Own.row ob 224 (aN L ++ ([.int .i64 (c.place:Int),.int .i64 (c.parts:Int)] ++ spare))])) ++ [Own.row (w.heap.size + 1) 218 [.bool true,.int .i64 (D:Int)],Own.row w.heap.size 224 [.int .i64 (c.place:Int),.int .i64 (c.parts:Int)]]) fun x=>by simp only [List.append_eq,List.nil_append,List.count_append,List.count_cons,List.count_nil];omega))).drop)
   clear T5 T4 T3 y0 y1 r1 rv rf;rcases Nat.eq_zero_or_pos N with hN0 | hN0
   ·have HP:=hhh (HPc.o.2 (by have:=HNe.o;omega))
    subst hN0
    have HS5:=hhh (show Own.Slc 20 (aF (aT s.held c)) (.slice (some ⟨hb,o,none⟩) Q (Q + sp.length)) [Own.row hb 20 (pre ++ (aF (aT s.held c) ++ sp))] by
     have:=Own.Slc.row (e:=20) (xs:=aF (aT s.held c)) hb pre sp (by rw [aI,bG,<- HQ.o];exact hmx);rw [aI,bG,<- HQ.o,<- Ho.o] at this
     exact this)
    have T6:=hhh (T5b.o.perm (.refl _) (Own.aE _ ([Own.row hb 20 (pre ++ (aF (aT s.held c) ++ sp))] ++ ((Own.row b 168 (s.cells (.slice (some ⟨hb,o,none⟩) Q (Q + sp.length)) (.slice (some ⟨ob,0,none⟩) 0 (0 + 1 + m)))) :: [Own.row ob 224 (aN L ++ ([.int .i64 (c.place:Int),.int .i64 (c.parts:Int)] ++ spare))])) fun x=>by simp only [List.count_append,List.count_cons,List.count_nil];omega));have g1:=T6.o.has.cell b 168 _ (List.mem_append_right _ mcs) 1 _ rfl;go_wp2_with (at_builtin;go_loud (refine Own.bQ (w.heap.size + 1 + 1) (by show (World.setCell _ _ _).heap.size=_;rw [Own.aY,Json.size_alloc,Own.aY,Json.size_alloc]) rfl _ _ 129 rfl 20 i0 .nilIface 16 underlying129 Hi.o.1 Hi.o.2.1 Hi.o.2.2.1 Hi.o.2.2.2 rfl (.slice (some ⟨hb,o,none⟩) Q (Q + sp.length)) (aF (aT s.held c)) Q (by rw [aI,bG,<- HQ.o]) [Own.row hb 20 (pre ++ (aF (aT s.held c) ++ sp))] _ rfl HS5.o T6.o.has _ rfl rfl ?c1 ?c2 ?_))
    case c1=>simp only [maxLen];omega
    case c2=>omega
    intro ad' c' h' w1 hs' ht';have S7:=hhh (show Own.Slc 20 (aF ((aT s.held c) ++ [.close])) (.slice ad' (Q + 1) c') h' by rw [dG];exact hs');have T7:=hhh (T6.o.trans ht');have k1:=T7.o.has.cell b 168 _ (List.mem_append_right _ mcs) 1 _ rfl;have k2:=T7.o.has.cell b 168 _ (List.mem_append_right _ mcs) 2 _ rfl;have kf1:=T7.o.has.free b 168 _ (List.mem_append_right _ mcs) 1;have kf2:=T7.o.has.free b 168 _ (List.mem_append_right _ mcs) 2;clear hs' ht';go_wp2;go_ret2;rw [HP.o];have hL0:L=[]:=List.eq_nil_of_length_eq_zero HNe.o.symm;subst hL0
    have T8:=hhh (show Own.aA _ (Own.row b 168 [.int .i64 (s.limit:Int),.slice none 0 0,.int .i64 0,.slice (some ⟨ob,0,none⟩) 0 (0 + 1 + m),.int .i64 (s.e:Int)] :: ([Own.row ob 224 (aN [] ++ ([.int .i64 (c.place:Int),.int .i64 (c.parts:Int)] ++ spare))] ++ h')) w _ from
     ((T7.o.perm (.refl _) List.perm_append_comm).put 1 (.slice none 0 0) _ rfl).put 2 (.int .i64 0) _ rfl)
    refine ⟨_,h',Own.row b 168 [.int .i64 (s.limit:Int),.slice none 0 0,.int .i64 0,.slice (some ⟨ob,0,none⟩) 0 (0 + 1 + m),.int .i64 (s.e:Int)] :: ([] ++ [Own.row ob 224 (aN [] ++ ([.int .i64 (c.place:Int),.int .i64 (c.parts:Int)] ++ spare))]),rfl,S7.o,⟨.slice none 0 0,.slice (some ⟨ob,0,none⟩) 0 (0 + 1 + m),[],[_],.bare none rfl,?_,rfl⟩,
     T8.o.perm (.refl _) (Own.aE _ _ fun x=>by simp only [List.nil_append,List.count_append,List.count_cons,List.count_nil];omega)⟩
    have:=Own.Slk.row (k:=2) (e:=224) (n:=0) (xs:=[]) ob (m + 1) ([.int .i64 (c.place:Int),.int .i64 (c.parts:Int)] ++ spare) rfl (by have:=HSp.o;simp;omega) (by omega);rw [show 0 + (m + 1)=0 + 1 + m by omega] at this;exact this
   ·have HP:=hhh (HPc.o.1 (by have:=HNe.o;omega))
    have hN0I:(0:Int) < (N:Int):=by omega
    have HId:=hhh (show (Stg.mk s.limit (aT s.held c) s.size L s.e).Is b ((Own.row b 168 (s.cells (.slice (some ⟨hb,o,none⟩) Q (Q + sp.length)) (.slice (some ⟨ob,0,none⟩) N (N + 1 + m)))) :: ([Own.row hb 20 (pre ++ (aF (aT s.held c) ++ sp))] ++ [Own.row ob 224 (aN L ++ ([.int .i64 (c.place:Int),.int .i64 (c.parts:Int)] ++ spare))])) from
     ⟨.slice (some ⟨hb,o,none⟩) Q (Q + sp.length),.slice (some ⟨ob,0,none⟩) N (N + 1 + m),[_],[_],by
      have:=Own.Slc.row (e:=20) (xs:=aF (aT s.held c)) hb pre sp (by rw [aI,bG,<- HQ.o];exact hmx);rw [aI,bG,<- HQ.o,<- Ho.o] at this;exact this,by
      have:=Own.Slk.row (k:=2) (e:=224) (n:=N) (xs:=aN L) ob (m + 1) ([.int .i64 (c.place:Int),.int .i64 (c.parts:Int)] ++ spare) (by rw [bL,HNe.o]) (by have:=HSp.o;simp;omega) (by omega);rw [show N + (m + 1)=N + 1 + m by omega] at this;rw [HNe.o] at this |-
      exact this,rfl⟩)
    have HHo:=hhh (iT HId.o T5b.o.has .close rfl (by decide) (show s.size <= 2000 by omega) (show ((aT s.held c)).length <= 2000 by rw [bG,<- HQ.o];omega));go_wp2_with (fail);refine HHo.o.mono ?_;rintro e w6 ⟨rfl,h6,i6,t6⟩;have HI6:=hhh i6;have T6:=hhh (T5b.o.trans t6);clear i6 t6;go_wp2;go_ret2;rw [HP.o];exact ⟨_,[],h6,rfl,.bare none rfl,HI6.o,T6.o⟩
 ·have hct:aT s.held c=s.held:=by
   unfold aT;rw [HPg.o]
   cases his:is with
   | true =>
    rw [e3 his];simp only;rw [ifn (fun h=>hcase ⟨his,h⟩)]
   | false =>
    have:=e4 his
    cases P with
    | aG m' n'=>exact absurd rfl (this m' n')
    | _=>rfl
  rw [hct] at HPc;have T5:=hhh ((T4.o.perm (.refl _) (Own.aE _ (((Own.row b 168 (s.cells (.slice (some ⟨hb,o,none⟩) Q (Q + sp.length)) (.slice (some ⟨ob,0,none⟩) N (N + 1 + m)))) :: ([Own.row hb 20 (pre ++ (aF s.held ++ sp))] ++ [Own.row ob 224 (aN L ++ ([.int .i64 (c.place:Int),.int .i64 (c.parts:Int)] ++ spare))])) ++ [Own.row (w.heap.size + 1) 218 [.bool m0,.int .i64 n0],Own.row w.heap.size 224 [.int .i64 (c.place:Int),.int .i64 (c.parts:Int)]]) fun x=>by simp only [List.count_append,List.count_cons,List.count_nil];omega)).drop);have hc2:is=false \/ (is=true /\ ¬ n0 < 0):=by
   cases his:is with
   | true=>exact .inr ⟨rfl,fun h=>hcase ⟨his,h⟩⟩
   | false=>exact .inl rfl
  clear hct hcase e3 e4 T4 T3 rv rf;rcases hc2 with rfl | ⟨rfl,hn0⟩
  ·rcases Nat.eq_zero_or_pos N with hN0 | hN0
   ·have HP:=hhh (HPc.o.2 (by have:=HNe.o;omega))
    subst hN0
    have HS5:=hhh (show Own.Slc 20 (aF s.held) (.slice (some ⟨hb,o,none⟩) Q (Q + sp.length)) [Own.row hb 20 (pre ++ (aF s.held ++ sp))] by
     have:=Own.Slc.row (e:=20) (xs:=aF s.held) hb pre sp (by rw [aI,show s.held.length=s.held.length from rfl,<- HQ.o];exact hmx);rw [aI,show s.held.length=s.held.length from rfl,<- HQ.o,<- Ho.o] at this
     exact this)
    have T6:=hhh (T5.o.perm (.refl _) (Own.aE _ ([Own.row hb 20 (pre ++ (aF s.held ++ sp))] ++ ((Own.row b 168 (s.cells (.slice (some ⟨hb,o,none⟩) Q (Q + sp.length)) (.slice (some ⟨ob,0,none⟩) 0 (0 + 1 + m)))) :: [Own.row ob 224 (aN L ++ ([.int .i64 (c.place:Int),.int .i64 (c.parts:Int)] ++ spare))])) fun x=>by simp only [List.count_append,List.count_cons,List.count_nil];omega));have g1:=T6.o.has.cell b 168 _ (List.mem_append_right _ mcs) 1 _ rfl;go_wp2_with (at_builtin;go_loud (refine Own.bQ (w.heap.size + 1 + 1) (by show (World.alloc _ _).heap.size=_;rw [Json.size_alloc,Own.aY,Json.size_alloc]) rfl _ _ 129 rfl 20 i0 .nilIface 16 underlying129 Hi.o.1 Hi.o.2.1 Hi.o.2.2.1 Hi.o.2.2.2 rfl (.slice (some ⟨hb,o,none⟩) Q (Q + sp.length)) (aF s.held) Q (by rw [aI,show s.held.length=s.held.length from rfl,<- HQ.o]) [Own.row hb 20 (pre ++ (aF s.held ++ sp))] _ rfl HS5.o T6.o.has _ rfl rfl ?c1 ?c2 ?_))
    case c1=>simp only [maxLen];omega
    case c2=>omega
    intro ad' c' h' w1 hs' ht';have S7:=hhh (show Own.Slc 20 (aF (s.held ++ [.close])) (.slice ad' (Q + 1) c') h' by rw [dG];exact hs');have T7:=hhh (T6.o.trans ht');have k1:=T7.o.has.cell b 168 _ (List.mem_append_right _ mcs) 1 _ rfl;have k2:=T7.o.has.cell b 168 _ (List.mem_append_right _ mcs) 2 _ rfl;have kf1:=T7.o.has.free b 168 _ (List.mem_append_right _ mcs) 1;have kf2:=T7.o.has.free b 168 _ (List.mem_append_right _ mcs) 2;clear hs' ht';go_wp2;go_ret2;rw [HP.o];have hL0:L=[]:=List.eq_nil_of_length_eq_zero HNe.o.symm;subst hL0
    have T8:=hhh (show Own.aA _ (Own.row b 168 [.int .i64 (s.limit:Int),.slice none 0 0,.int .i64 0,.slice (some ⟨ob,0,none⟩) 0 (0 + 1 + m),.int .i64 (s.e:Int)] :: ([Own.row ob 224 (aN [] ++ ([.int .i64 (c.place:Int),.int .i64 (c.parts:Int)] ++ spare))] ++ h')) w _ from
     ((T7.o.perm (.refl _) List.perm_append_comm).put 1 (.slice none 0 0) _ rfl).put 2 (.int .i64 0) _ rfl)
    refine ⟨_,h',Own.row b 168 [.int .i64 (s.limit:Int),.slice none 0 0,.int .i64 0,.slice (some ⟨ob,0,none⟩) 0 (0 + 1 + m),.int .i64 (s.e:Int)] :: ([] ++ [Own.row ob 224 (aN [] ++ ([.int .i64 (c.place:Int),.int .i64 (c.parts:Int)] ++ spare))]),rfl,S7.o,⟨.slice none 0 0,.slice (some ⟨ob,0,none⟩) 0 (0 + 1 + m),[],[_],.bare none rfl,?_,rfl⟩,
     T8.o.perm (.refl _) (Own.aE _ _ fun x=>by simp only [List.nil_append,List.count_append,List.count_cons,List.count_nil];omega)⟩
    have:=Own.Slk.row (k:=2) (e:=224) (n:=0) (xs:=[]) ob (m + 1) ([.int .i64 (c.place:Int),.int .i64 (c.parts:Int)] ++ spare) rfl (by have:=HSp.o;simp;omega) (by omega);rw [show 0 + (m + 1)=0 + 1 + m by omega] at this;exact this
   ·have HP:=hhh (HPc.o.1 (by have:=HNe.o;omega))
    have hN0I:(0:Int) < (N:Int):=by omega
    have HId:=hhh (show (Stg.mk s.limit s.held s.size L s.e).Is b ((Own.row b 168 (s.cells (.slice (some ⟨hb,o,none⟩) Q (Q + sp.length)) (.slice (some ⟨ob,0,none⟩) N (N + 1 + m)))) :: ([Own.row hb 20 (pre ++ (aF s.held ++ sp))] ++ [Own.row ob 224 (aN L ++ ([.int .i64 (c.place:Int),.int .i64 (c.parts:Int)] ++ spare))])) from
     ⟨.slice (some ⟨hb,o,none⟩) Q (Q + sp.length),.slice (some ⟨ob,0,none⟩) N (N + 1 + m),[_],[_],by
      have:=Own.Slc.row (e:=20) (xs:=aF s.held) hb pre sp (by rw [aI,show s.held.length=s.held.length from rfl,<- HQ.o];exact hmx);rw [aI,show s.held.length=s.held.length from rfl,<- HQ.o,<- Ho.o] at this;exact this,by
      have:=Own.Slk.row (k:=2) (e:=224) (n:=N) (xs:=aN L) ob (m + 1) ([.int .i64 (c.place:Int),.int .i64 (c.parts:Int)] ++ spare) (by rw [bL,HNe.o]) (by have:=HSp.o;simp;omega) (by omega);rw [show N + (m + 1)=N + 1 + m by omega] at this;rw [HNe.o] at this |-
      exact this,rfl⟩)
    have HHo:=hhh (iT HId.o T5.o.has .close rfl (by decide) (show s.size <= 2000 by omega) (show (s.held).length <= 2000 by rw [<- HQ.o];omega));go_wp2_with (fail);refine HHo.o.mono ?_;rintro e w6 ⟨rfl,h6,i6,t6⟩;have HI6:=hhh i6;have T6:=hhh (T5.o.trans t6);clear i6 t6;go_wp2;go_ret2;rw [HP.o];exact ⟨_,[],h6,rfl,.bare none rfl,HI6.o,T6.o⟩
  ·rcases Nat.eq_zero_or_pos N with hN0 | hN0
   ·have HP:=hhh (HPc.o.2 (by have:=HNe.o;omega))
    subst hN0
    have HS5:=hhh (show Own.Slc 20 (aF s.held) (.slice (some ⟨hb,o,none⟩) Q (Q + sp.length)) [Own.row hb 20 (pre ++ (aF s.held ++ sp))] by
     have:=Own.Slc.row (e:=20) (xs:=aF s.held) hb pre sp (by rw [aI,show s.held.length=s.held.length from rfl,<- HQ.o];exact hmx);rw [aI,show s.held.length=s.held.length from rfl,<- HQ.o,<- Ho.o] at this
     exact this)
    have T6:=hhh (T5.o.perm (.refl _) (Own.aE _ ([Own.row hb 20 (pre ++ (aF s.held ++ sp))] ++ ((Own.row b 168 (s.cells (.slice (some ⟨hb,o,none⟩) Q (Q + sp.length)) (.slice (some ⟨ob,0,none⟩) 0 (0 + 1 + m)))) :: [Own.row ob 224 (aN L ++ ([.int .i64 (c.place:Int),.int .i64 (c.parts:Int)] ++ spare))])) fun x=>by simp only [List.count_append,List.count_cons,List.count_nil];omega));have g1:=T6.o.has.cell b 168 _ (List.mem_append_right _ mcs) 1 _ rfl;go_wp2_with (at_builtin;go_loud (refine Own.bQ (w.heap.size + 1 + 1) (by show (World.alloc _ _).heap.size=_;rw [Json.size_alloc,Own.aY,Json.size_alloc]) rfl _ _ 129 rfl 20 i0 .nilIface 16 underlying129 Hi.o.1 Hi.o.2.1 Hi.o.2.2.1 Hi.o.2.2.2 rfl (.slice (some ⟨hb,o,none⟩) Q (Q + sp.length)) (aF s.held) Q (by rw [aI,show s.held.length=s.held.length from rfl,<- HQ.o]) [Own.row hb 20 (pre ++ (aF s.held ++ sp))] _ rfl HS5.o T6.o.has _ rfl rfl ?c1 ?c2 ?_))
    case c1=>simp only [maxLen];omega
    case c2=>omega
    intro ad' c' h' w1 hs' ht';have S7:=hhh (show Own.Slc 20 (aF (s.held ++ [.close])) (.slice ad' (Q + 1) c') h' by rw [dG];exact hs');have T7:=hhh (T6.o.trans ht');have k1:=T7.o.has.cell b 168 _ (List.mem_append_right _ mcs) 1 _ rfl;have k2:=T7.o.has.cell b 168 _ (List.mem_append_right _ mcs) 2 _ rfl;have kf1:=T7.o.has.free b 168 _ (List.mem_append_right _ mcs) 1;have kf2:=T7.o.has.free b 168 _ (List.mem_append_right _ mcs) 2;clear hs' ht';go_wp2;go_ret2;rw [HP.o];have hL0:L=[]:=List.eq_nil_of_length_eq_zero HNe.o.symm;subst hL0
    have T8:=hhh (show Own.aA _ (Own.row b 168 [.int .i64 (s.limit:Int),.slice none 0 0,.int .i64 0,.slice (some ⟨ob,0,none⟩) 0 (0 + 1 + m),.int .i64 (s.e:Int)] :: ([Own.row ob 224 (aN [] ++ ([.int .i64 (c.place:Int),.int .i64 (c.parts:Int)] ++ spare))] ++ h')) w _ from
     ((T7.o.perm (.refl _) List.perm_append_comm).put 1 (.slice none 0 0) _ rfl).put 2 (.int .i64 0) _ rfl)
    refine ⟨_,h',Own.row b 168 [.int .i64 (s.limit:Int),.slice none 0 0,.int .i64 0,.slice (some ⟨ob,0,none⟩) 0 (0 + 1 + m),.int .i64 (s.e:Int)] :: ([] ++ [Own.row ob 224 (aN [] ++ ([.int .i64 (c.place:Int),.int .i64 (c.parts:Int)] ++ spare))]),rfl,S7.o,⟨.slice none 0 0,.slice (some ⟨ob,0,none⟩) 0 (0 + 1 + m),[],[_],.bare none rfl,?_,rfl⟩,
     T8.o.perm (.refl _) (Own.aE _ _ fun x=>by simp only [List.nil_append,List.count_append,List.count_cons,List.count_nil];omega)⟩
    have:=Own.Slk.row (k:=2) (e:=224) (n:=0) (xs:=[]) ob (m + 1) ([.int .i64 (c.place:Int),.int .i64 (c.parts:Int)] ++ spare) rfl (by have:=HSp.o;simp;omega) (by omega);rw [show 0 + (m + 1)=0 + 1 + m by omega] at this;exact this
   ·have HP:=hhh (HPc.o.1 (by have:=HNe.o;omega))
    have hN0I:(0:Int) < (N:Int):=by omega
    have HId:=hhh (show (Stg.mk s.limit s.held s.size L s.e).Is b ((Own.row b 168 (s.cells (.slice (some ⟨hb,o,none⟩) Q (Q + sp.length)) (.slice (some ⟨ob,0,none⟩) N (N + 1 + m)))) :: ([Own.row hb 20 (pre ++ (aF s.held ++ sp))] ++ [Own.row ob 224 (aN L ++ ([.int .i64 (c.place:Int),.int .i64 (c.parts:Int)] ++ spare))])) from
     ⟨.slice (some ⟨hb,o,none⟩) Q (Q + sp.length),.slice (some ⟨ob,0,none⟩) N (N + 1 + m),[_],[_],by
      have:=Own.Slc.row (e:=20) (xs:=aF s.held) hb pre sp (by rw [aI,show s.held.length=s.held.length from rfl,<- HQ.o];exact hmx);rw [aI,show s.held.length=s.held.length from rfl,<- HQ.o,<- Ho.o] at this;exact this,by
      have:=Own.Slk.row (k:=2) (e:=224) (n:=N) (xs:=aN L) ob (m + 1) ([.int .i64 (c.place:Int),.int .i64 (c.parts:Int)] ++ spare) (by rw [bL,HNe.o]) (by have:=HSp.o;simp;omega) (by omega);rw [show N + (m + 1)=N + 1 + m by omega] at this;rw [HNe.o] at this |-
      exact this,rfl⟩)
    have HHo:=hhh (iT HId.o T5.o.has .close rfl (by decide) (show s.size <= 2000 by omega) (show (s.held).length <= 2000 by rw [<- HQ.o];omega));go_wp2_with (fail);refine HHo.o.mono ?_;rintro e w6 ⟨rfl,h6,i6,t6⟩;have HI6:=hhh i6;have T6:=hhh (T5.o.trans t6);clear i6 t6;go_wp2;go_ret2;rw [HP.o];exact ⟨_,[],h6,rfl,.bare none rfl,HI6.o,T6.o⟩
end
end Pip
end
section
open Go.RowKit
open Json (Part)
namespace Pip
section
variable {p:Cin} {b:Nat} {h:Own.Heap} {w:World}
theorem tY {n : Nat} (hi : p.Is b h) (hw : Own.Has w h) (hf : p.Fits n) (x : UInt8) (hq : (p.h.step x).2.2 ≠ 0 ∨ (p.h.step x).2.1 = false) :
  Calls prog 180 #[.pointer (some ⟨b,0,none⟩),.int .u8 (x.toNat:Int)] w (fE (p.head x) b h w):=by
 have HP0:p.head x=if (p.h.step x).2.2 ≠ 0 then (Cin.mk p.c (p.h.step x).1 (!(p.h.step x).2.1)).on (p.c.fail (p.h.step x).2.2) else if (p.h.step x).2.1=false then ((Cin.mk p.c (p.h.step x).1 (!(p.h.step x).2.1)),[]) else (Cin.mk p.c Hd.new false).behind (p.h.step x).1.major (p.h.step x).1.v (p.h.step x).1.opened:=rfl
 have HS:=hhh (hi.uI hw hf.h x);generalize p.head x=O at HP0 |-;generalize p.h.step x=o at HP0 HS hq;obtain ⟨n2,en,er⟩:=o;simp only at HP0 HS hq;have HPh:=hhh HP0;have Hq:=hhh hq;clear hi hw hf HP0 hq;go_enter func180,ntmps180;go_wp2_with (fail);refine HS.o.mono ?_;rintro e w1 ⟨rfl,h1,i1,t1⟩;obtain ⟨c19,f19,h2,i2,t2⟩:=Cin.Is.uO i1 t1 (!en);have I2:=hhh i2;have T2:=hhh t2;have HFl:=hhh (cZ i2 t2.has er);simp only at HFl;clear i1 t1 i2 t2 HS;rcases Nat.eq_zero_or_pos er with h0 | h0
 ·subst h0
  obtain rfl:en=false:=by rcases Hq.o with h | h;exact absurd rfl h;exact h
  have HP:=hhh (HPh.o.trans ((ifn (by simp)).trans (ifp rfl)));clear HPh HFl;go_wp2_with (fail);go_ret;rw [HP.o];exact ⟨_,[],h2,rfl,.bare _ rfl,I2.o,T2.o⟩
 ·have HP:=hhh (HPh.o.trans (ifp (by omega)))
  have hne:((er:Int) != 0)=true:=by rw [bne_iff_ne];omega
  clear HPh;go_wp2_with (fail);refine HFl.o.mono ?_;rintro e w3 ⟨v,hv,h3,rfl,hs,i3,t3⟩;have HI3:=hhh i3;have HT3:=hhh (T2.o.trans t3);have HS:=hhh hs;clear i3 t3 hs;go_wp2;go_ret;rw [HP.o];exact ⟨_,hv,h3,rfl,HS.o,HI3.o,HT3.o⟩
theorem aDb {n : Nat} (hi : p.Is b h) (hw : Own.Has w h) (hf : p.Fits n) (hn : n ≤ 1000000) (x : UInt8) (hq0 : (p.h.step x).2.2 = 0) (hq1 : (p.h.step x).2.1 = true) :
  Calls prog 180 #[.pointer (some ⟨b,0,none⟩),.int .u8 (x.toNat:Int)] w (fE (p.head x) b h w):=by
 have HP0:p.head x=(Cin.mk p.c Hd.new false).behind (p.h.step x).1.major (p.h.step x).1.v (p.h.step x).1.opened:=by
  unfold Cin.head
  dsimp only
  rw [ifn (by rw [hq0];simp),ifn (by rw [hq1];simp)]
 obtain ⟨hfin,he0⟩:=Hd.qY p.h x hq0;have hfit:=(hf.h.step x).1;have HS:=hhh (hi.uI hw hf.h x);have HFc:=hhh hf.c;have Hn:=hhh hn;generalize p.head x=O at HP0 |-;generalize p.h.step x=o at HP0 HS hq0 hq1 hfin he0 hfit;obtain ⟨n2,en,er⟩:=o;simp only at HP0 HS hq0 hq1 hfin he0 hfit;subst hq0 hq1;obtain ⟨n2b,n2f,n2o,M,n2l,V,n2e⟩:=n2;simp only at he0 hfin HP0;subst he0 hfin;have hM7:M <= 7:=hfit.major;have hV64:V < 18446744073709551616:=hfit.v;have HV64:=hhh hV64;have fin:∀ P:Cin × List Part,O=P -> ∀ (e:Ending) (w':World),fE P b h w e w' -> fE O b h w e w':=fun P hP e w' hd=>hP ▸ hd
 have Fin:=hhh fin;have HPh:=hhh HP0;clear hi hw hf HP0 hfit fin hn hV64;go_enter func180,ntmps180;go_wp2_with (fail);refine HS.o.mono ?_;rintro e w1 ⟨rfl,h1,i1,t1⟩;obtain ⟨c19,f19,h2,i2,t2⟩:=Cin.Is.uO i1 t1 false;have I2:=hhh i2;have T2:=hhh t2;have HMa:=hhh (fun n=>i2.major (t2.drewN n).has rfl);have HVa:=hhh (fun n=>i2.value (t2.drewN n).has rfl rfl);have HOp:=hhh (fun n=>i2.open_ (t2.drewN n).has rfl);have HMa0:=hhh (i2.major t2.has rfl);have HVa0:=hhh (i2.value t2.has rfl rfl);have HOp0:=hhh (i2.open_ t2.has rfl);have HCl:=hhh (fun n=>i2.clear (t2.drewN n).has);simp only at HMa HVa HOp HMa0 HVa0 HOp0 HCl;clear i1 t1 i2 t2 HS;go_wp2_with (fail)
 go_region_with (first
  | (go_at_call 186;(first | refine (HMa.o _).mono ?_ | refine HMa0.o.mono ?_);rintro e W ⟨rfl,rfl⟩)
  | (go_at_call 187;(first | refine (HVa.o _).mono ?_ | refine HVa0.o.mono ?_);rintro e W ⟨rfl,rfl⟩)
  | (go_at_call 188;(first | refine (HOp.o _).mono ?_ | refine HOp0.o.mono ?_);rintro e W ⟨rfl,rfl⟩))
 go_wp2_with (fail);refine (HCl.o _).mono ?_;rintro e w3 ⟨rfl,h3,i3,t3⟩;have T3:=hhh ((T2.o.drewN _).trans t3);have I3:=hhh (show (Cin.mk p.c Hd.new false).Is b h3 from i3);clear i3 t3 HMa HVa HOp HMa0 HVa0 HOp0 HCl T2 I2;have HVal:=hhh (fun v=>dX I3.o T3.o.has HFc.o Hn.o v);have HLe:=hhh (fun wd m=>iC I3.o T3.o.has HFc.o Hn.o wd m);have HBe:=hhh (fun pr ct=>qE I3.o T3.o.has HFc.o Hn.o pr ct);have HFl:=hhh (cZ I3.o T3.o.has 7);simp only at HVal HLe HBe HFl;obtain ⟨-,-,c4,c5,-⟩:=Core.Is.cell I3.o T3.o.has;have f4:=Core.Is.free I3.o T3.o.has 4;have f5:=Core.Is.free I3.o T3.o.has 5;have HFg:=hhh (fun wd=>Core.Is.aDo I3.o T3.o wd true);rcases (show M=0 \/ M=1 \/ M=2 \/ M=3 \/ M=4 \/ M=5 \/ M=6 \/ M=7 by omega) with rfl | rfl | rfl | rfl | rfl | rfl | rfl | rfl
 ·have HP:=hhh (HPh.o.trans (show _=(Cin.mk p.c Hd.new false).on (p.c.value (.whole false V)) from rfl))
  clear HPh;go_wp2_with (fail);refine (HVal.o (.whole false V)).mono ?_;rintro e w4 ⟨v,hv,h4,rfl,hs,i4,t4⟩;have HI4:=hhh i4;have HT4:=hhh (T3.o.trans t4);have HS4:=hhh hs;clear i4 t4 hs;go_wp2;go_ret;exact Fin.o _ HP.o _ _ ⟨_,hv,h4,rfl,HS4.o,HI4.o,HT4.o⟩
 ·have HP:=hhh (HPh.o.trans (show _=(Cin.mk p.c Hd.new false).on (p.c.value (.whole true V)) from rfl))
  clear HPh;go_wp2_with (fail);refine (HVal.o (.whole true V)).mono ?_;rintro e w4 ⟨v,hv,h4,rfl,hs,i4,t4⟩;have HI4:=hhh i4;have HT4:=hhh (T3.o.trans t4);have HS4:=hhh hs;clear i4 t4 hs;go_wp2;go_ret;exact Fin.o _ HP.o _ _ ⟨_,hv,h4,rfl,HS4.o,HI4.o,HT4.o⟩
 ·cases n2o
  ·have HP:=hhh (HPh.o.trans (show _=(Cin.mk p.c Hd.new false).on (p.c.length false V) from rfl))
   clear HPh;go_wp2_with (fail);refine (HLe.o false V).mono ?_;rintro e w4 ⟨v,hv,h4,rfl,hs,i4,t4⟩;have HI4:=hhh i4;have HT4:=hhh (T3.o.trans t4);have HS4:=hhh hs;clear i4 t4 hs;go_wp2;go_ret;exact Fin.o _ HP.o _ _ ⟨_,hv,h4,rfl,HS4.o,HI4.o,HT4.o⟩
  ·obtain ⟨h5,i5,t5⟩:=HFg.o false
   have HP:=hhh (HPh.o.trans (show _=(Cin.mk (Core.mk p.c.depth p.c.opened p.c.done p.c.e false true p.c.lack p.c.s p.c.c) Hd.new false,[]) from rfl));have HI5:=hhh i5;have HT5:=hhh t5;clear HPh i5 t5;go_wp2_with (fail);go_ret;exact Fin.o _ HP.o _ _ ⟨_,[],h5,rfl,.bare _ rfl,HI5.o,HT5.o⟩
 ·cases n2o
  ·have HP:=hhh (HPh.o.trans (show _=(Cin.mk p.c Hd.new false).on (p.c.length true V) from rfl))
   clear HPh;go_wp2_with (fail);refine (HLe.o true V).mono ?_;rintro e w4 ⟨v,hv,h4,rfl,hs,i4,t4⟩;have HI4:=hhh i4;have HT4:=hhh (T3.o.trans t4);have HS4:=hhh hs;clear i4 t4 hs;go_wp2;go_ret;exact Fin.o _ HP.o _ _ ⟨_,hv,h4,rfl,HS4.o,HI4.o,HT4.o⟩
  ·obtain ⟨h5,i5,t5⟩:=HFg.o true
   have HP:=hhh (HPh.o.trans (show _=(Cin.mk (Core.mk p.c.depth p.c.opened p.c.done p.c.e true true p.c.lack p.c.s p.c.c) Hd.new false,[]) from rfl));have HI5:=hhh i5;have HT5:=hhh t5;clear HPh i5 t5;go_wp2_with (fail);go_ret;exact Fin.o _ HP.o _ _ ⟨_,[],h5,rfl,.bare _ rfl,HI5.o,HT5.o⟩
 ·cases n2o
  ·by_cases hv:1000000 < V
   ·have HP:=hhh (HPh.o.trans (show _=(Cin.mk p.c Hd.new false).on (p.c.fail 7) from ifp hv))
    have hvI:(1000000:Int) < (V:Int):=by omega
    clear HPh hv;go_wp2_with (fail);refine HFl.o.mono ?_;rintro e w4 ⟨v,hv,h4,rfl,hs,i4,t4⟩;have HI4:=hhh i4;have HT4:=hhh (T3.o.trans t4);have HS4:=hhh hs;clear i4 t4 hs;go_wp2;go_ret;exact Fin.o _ HP.o _ _ ⟨_,hv,h4,rfl,HS4.o,HI4.o,HT4.o⟩
   ·have HP:=hhh (HPh.o.trans (show _=(Cin.mk p.c Hd.new false).on (p.c.begin false (V:Int)) from ifn hv))
    have hvI:¬ (1000000:Int) < (V:Int):=by omega
    have hvw:IntKind.i64.wrap (V:Int)=(V:Int):=by rw [IntKind.wrap_i64];omega
    clear HPh hv;go_wp2_with (fail);refine (HBe.o false (V:Int)).mono ?_;rintro e w4 ⟨v,hv,h4,rfl,hs,i4,t4⟩;have HI4:=hhh i4;have HT4:=hhh (T3.o.trans t4);have HS4:=hhh hs;clear i4 t4 hs;go_wp2;go_ret;exact Fin.o _ HP.o _ _ ⟨_,hv,h4,rfl,HS4.o,HI4.o,HT4.o⟩
  ·have HP:=hhh (HPh.o.trans (show _=(Cin.mk p.c Hd.new false).on (p.c.begin false (-1)) from rfl))
   clear HPh;go_wp2_with (fail);refine (HBe.o false (-1)).mono ?_;rintro e w4 ⟨v,hv,h4,rfl,hs,i4,t4⟩;have HI4:=hhh i4;have HT4:=hhh (T3.o.trans t4);have HS4:=hhh hs;clear i4 t4 hs;go_wp2;go_ret;exact Fin.o _ HP.o _ _ ⟨_,hv,h4,rfl,HS4.o,HI4.o,HT4.o⟩
 ·cases n2o
  ·by_cases hv:1000000 < V
   ·have HP:=hhh (HPh.o.trans (show _=(Cin.mk p.c Hd.new false).on (p.c.fail 7) from ifp hv))
    have hvI:(1000000:Int) < (V:Int):=by omega
    clear HPh hv;go_wp2_with (fail);refine HFl.o.mono ?_;rintro e w4 ⟨v,hv,h4,rfl,hs,i4,t4⟩;have HI4:=hhh i4;have HT4:=hhh (T3.o.trans t4);have HS4:=hhh hs;clear i4 t4 hs;go_wp2;go_ret;exact Fin.o _ HP.o _ _ ⟨_,hv,h4,rfl,HS4.o,HI4.o,HT4.o⟩
   ·have HP:=hhh (HPh.o.trans (show _=(Cin.mk p.c Hd.new false).on (p.c.begin true (V:Int)) from ifn hv))
    have hvI:¬ (1000000:Int) < (V:Int):=by omega
    have hvw:IntKind.i64.wrap (V:Int)=(V:Int):=by rw [IntKind.wrap_i64];omega
    clear HPh hv;go_wp2_with (fail);refine (HBe.o true (V:Int)).mono ?_;rintro e w4 ⟨v,hv,h4,rfl,hs,i4,t4⟩;have HI4:=hhh i4;have HT4:=hhh (T3.o.trans t4);have HS4:=hhh hs;clear i4 t4 hs;go_wp2;go_ret;exact Fin.o _ HP.o _ _ ⟨_,hv,h4,rfl,HS4.o,HI4.o,HT4.o⟩
  ·have HP:=hhh (HPh.o.trans (show _=(Cin.mk p.c Hd.new false).on (p.c.begin true (-1)) from rfl))
   clear HPh;go_wp2_with (fail);refine (HBe.o true (-1)).mono ?_;rintro e w4 ⟨v,hv,h4,rfl,hs,i4,t4⟩;have HI4:=hhh i4;have HT4:=hhh (T3.o.trans t4);have HS4:=hhh hs;clear i4 t4 hs;go_wp2;go_ret;exact Fin.o _ HP.o _ _ ⟨_,hv,h4,rfl,HS4.o,HI4.o,HT4.o⟩
 ·cases n2o
  ·by_cases hv:1000000 < V
   ·have HP:=hhh (HPh.o.trans (show _=(Cin.mk p.c Hd.new false).on (p.c.fail 7) from ifp hv))
    have hvI:(1000000:Int) < (V:Int):=by omega
    clear HPh hv;go_wp2_with (fail);refine HFl.o.mono ?_;rintro e w4 ⟨v,hv,h4,rfl,hs,i4,t4⟩;have HI4:=hhh i4;have HT4:=hhh (T3.o.trans t4);have HS4:=hhh hs;clear i4 t4 hs;go_wp2;go_ret;exact Fin.o _ HP.o _ _ ⟨_,hv,h4,rfl,HS4.o,HI4.o,HT4.o⟩
   ·have HP:=hhh (HPh.o.trans (show _=(Cin.mk p.c Hd.new false).on (p.c.begin false (V:Int)) from ifn hv))
    have hvI:¬ (1000000:Int) < (V:Int):=by omega
    have hvw:IntKind.i64.wrap (V:Int)=(V:Int):=by rw [IntKind.wrap_i64];omega
    clear HPh hv;go_wp2_with (fail);refine (HBe.o false (V:Int)).mono ?_;rintro e w4 ⟨v,hv,h4,rfl,hs,i4,t4⟩;have HI4:=hhh i4;have HT4:=hhh (T3.o.trans t4);have HS4:=hhh hs;clear i4 t4 hs;go_wp2;go_ret;exact Fin.o _ HP.o _ _ ⟨_,hv,h4,rfl,HS4.o,HI4.o,HT4.o⟩
  ·have HP:=hhh (HPh.o.trans (show _=(Cin.mk p.c Hd.new false).on (p.c.begin false (-1)) from rfl))
   clear HPh;go_wp2_with (fail);refine (HBe.o false (-1)).mono ?_;rintro e w4 ⟨v,hv,h4,rfl,hs,i4,t4⟩;have HI4:=hhh i4;have HT4:=hhh (T3.o.trans t4);have HS4:=hhh hs;clear i4 t4 hs;go_wp2;go_ret;exact Fin.o _ HP.o _ _ ⟨_,hv,h4,rfl,HS4.o,HI4.o,HT4.o⟩
 ·cases n2o
  ·by_cases hv:1000000 < V
   ·have HP:=hhh (HPh.o.trans (show _=(Cin.mk p.c Hd.new false).on (p.c.fail 7) from ifp hv))
    have hvI:(1000000:Int) < (V:Int):=by omega
    clear HPh hv;go_wp2_with (fail);refine HFl.o.mono ?_;rintro e w4 ⟨v,hv,h4,rfl,hs,i4,t4⟩;have HI4:=hhh i4;have HT4:=hhh (T3.o.trans t4);have HS4:=hhh hs;clear i4 t4 hs;go_wp2;go_ret;exact Fin.o _ HP.o _ _ ⟨_,hv,h4,rfl,HS4.o,HI4.o,HT4.o⟩
   ·have HP:=hhh (HPh.o.trans (show _=(Cin.mk p.c Hd.new false).on (p.c.begin false (V:Int)) from ifn hv))
    have hvI:¬ (1000000:Int) < (V:Int):=by omega
    have hvw:IntKind.i64.wrap (V:Int)=(V:Int):=by rw [IntKind.wrap_i64];omega
    clear HPh hv;go_wp2_with (fail);refine (HBe.o false (V:Int)).mono ?_;rintro e w4 ⟨v,hv,h4,rfl,hs,i4,t4⟩;have HI4:=hhh i4;have HT4:=hhh (T3.o.trans t4);have HS4:=hhh hs;clear i4 t4 hs;go_wp2;go_ret;exact Fin.o _ HP.o _ _ ⟨_,hv,h4,rfl,HS4.o,HI4.o,HT4.o⟩
  ·have HP:=hhh (HPh.o.trans (show _=(Cin.mk p.c Hd.new false).on (p.c.begin false (-1)) from rfl))
   clear HPh;go_wp2_with (fail);refine (HBe.o false (-1)).mono ?_;rintro e w4 ⟨v,hv,h4,rfl,hs,i4,t4⟩;have HI4:=hhh i4;have HT4:=hhh (T3.o.trans t4);have HS4:=hhh hs;clear i4 t4 hs;go_wp2;go_ret;exact Fin.o _ HP.o _ _ ⟨_,hv,h4,rfl,HS4.o,HI4.o,HT4.o⟩
theorem nI {n : Nat} (hi : p.Is b h) (hw : Own.Has w h) (hf : p.Fits n) (hn : n ≤ 1000000) (x : UInt8) :
  Calls prog 180 #[.pointer (some ⟨b,0,none⟩),.int .u8 (x.toNat:Int)] w (fE (p.head x) b h w):=by
 by_cases h0:(p.h.step x).2.2=0
 ·cases h1:(p.h.step x).2.1 with
  | true=>exact aDb hi hw hf hn x h0 h1
  | false=>exact tY hi hw hf x (.inr h1)
 ·exact tY hi hw hf x (.inl h0)
end
end Pip
end
section
open Go.RowKit
open Json (Part)
namespace Pip
section
variable {p:Cin} {b:Nat} {h:Own.Heap} {w:World}
theorem cleaf {f : Nat} {a : Array Value} {o : Core × List Part} {O : Cin × List Part} {u : World} {Q : Ending → World → Prop}
  (hC:Calls prog f a u (bN o 194 b (p.h.enc ++ [.bool p.begun]) h u)) (ht:∀ {h4 w4},Own.aA h h4 u w4 -> Own.aA h h4 w w4)
  (hP:Hid (O=p.on o)) (H:∀ v w4,Hid (fE O b h w (.returned v) w4) -> Q (.returned v) w4):Calls prog f a u Q:=by
 refine hC.mono ?_;rintro e w4 ⟨v,hv,h4,rfl,hs,i4,t4⟩;refine H v w4 (hhh ?_);rw [hP.out];exact ⟨_,hv,h4,rfl,hs,i4,ht t4⟩
theorem dleaf {f : Nat} {a : Array Value} {o O : Cin × List Part} {u : World} {Q : Ending → World → Prop}
  (hC:Calls prog f a u (fE o b h u)) (ht:∀ {h4 w4},Own.aA h h4 u w4 -> Own.aA h h4 w w4)
  (hP:Hid (O=o)) (H:∀ v w4,Hid (fE O b h w (.returned v) w4) -> Q (.returned v) w4):Calls prog f a u Q:=by
 refine hC.mono ?_;rintro e w4 ⟨v,hv,h4,rfl,hs,i4,t4⟩;refine H v w4 (hhh ?_);rw [hP.out];exact ⟨_,hv,h4,rfl,hs,i4,ht t4⟩
theorem wW {n : Nat} (hi : p.Is b h) (hw : Own.Has w h) (hf : p.c.Fits n) (hn : n ≤ 1000000) (low : Nat) :
  Calls prog 196 #[.pointer (some ⟨b,0,none⟩),.int .u8 (low:Int)] w (fE (p.simple low) b h w):=by
 have HV:=hhh (fun v=>dX hi hw hf hn v);have HF:=hhh (fun e=>cZ hi hw e);rcases (show low=20 \/ low=21 \/ low=22 \/ low=25 \/ low=26 \/ low=27 \/ (low ≠ 20 /\ low ≠ 21 /\ low ≠ 22 /\ low ≠ 25 /\ low ≠ 26 /\ low ≠ 27) by omega) with rfl | rfl | rfl | rfl | rfl | rfl | ⟨h0,h1,h2,h3,h4,h5⟩
 ·have HP:=hhh (show p.simple 20=p.on (p.c.value (.bool false)) from rfl)
  have HC:=hhh (HV.o (.bool false));clear hi hw hf HV HF;go_enter func196,ntmps196;go_wp2_with (fail);refine cleaf HC.o (fun t=>t) HP ?_;intro v w4 G;go_wp2;go_ret;exact G.out
 ·have HP:=hhh (show p.simple 21=p.on (p.c.value (.bool true)) from rfl)
  have HC:=hhh (HV.o (.bool true));clear hi hw hf HV HF;go_enter func196,ntmps196;go_wp2_with (fail);refine cleaf HC.o (fun t=>t) HP ?_;intro v w4 G;go_wp2;go_ret;exact G.out
 ·have HP:=hhh (show p.simple 22=p.on (p.c.value .null) from rfl)
  have HC:=hhh (HV.o .null);clear hi hw hf HV HF;go_enter func196,ntmps196;go_wp2_with (fail);refine cleaf HC.o (fun t=>t) HP ?_;intro v w4 G;go_wp2;go_ret;exact G.out
 ·have HP:=hhh (show p.simple 25=p.on (p.c.fail 6) from rfl)
  have HC:=hhh (HF.o 6);clear hi hw hf HV HF;go_enter func196,ntmps196;go_wp2_with (fail);refine cleaf HC.o (fun t=>t) HP ?_;intro v w4 G;go_wp2;go_ret;exact G.out
 ·have HP:=hhh (show p.simple 26=p.on (p.c.fail 6) from rfl)
  have HC:=hhh (HF.o 6);clear hi hw hf HV HF;go_enter func196,ntmps196;go_wp2_with (fail);refine cleaf HC.o (fun t=>t) HP ?_;intro v w4 G;go_wp2;go_ret;exact G.out
 ·have HP:=hhh (show p.simple 27=p.on (p.c.fail 6) from rfl)
  have HC:=hhh (HF.o 6);clear hi hw hf HV HF;go_enter func196,ntmps196;go_wp2_with (fail);refine cleaf HC.o (fun t=>t) HP ?_;intro v w4 G;go_wp2;go_ret;exact G.out
 ·have HP:=hhh (show p.simple low=p.on (p.c.fail 8) by unfold Cin.simple;rw [ifn (by omega),ifn h2,ifn (by omega)])
  have HC:=hhh (HF.o 8);have b0:((low:Int) == 20)=false:=by rw [bfn];omega
  have b1:((low:Int) == 21)=false:=by rw [bfn];omega
  have b2:((low:Int) == 22)=false:=by rw [bfn];omega
  have b3:((low:Int) == 25)=false:=by rw [bfn];omega
  have b4:((low:Int) == 26)=false:=by rw [bfn];omega
  have b5:((low:Int) == 27)=false:=by rw [bfn];omega
  clear hi hw hf HV HF h0 h1 h2 h3 h4 h5;go_enter func196,ntmps196;go_wp2_with (fail);refine cleaf HC.o (fun t=>t) HP ?_;intro v w4 G;go_wp2;go_ret;exact G.out
theorem aB2 {n : Nat} (hi : p.Is b h) (hw : Own.Has w h) (hf : p.Fits n) (hn : n ≤ 1000000) (x : UInt8) :
  Calls prog 181 #[.pointer (some ⟨b,0,none⟩),.int .u8 (x.toNat:Int)] w (fE (p.chunk x) b h w):=by
 have hlt:=UInt8.toNat_lt x;have HP0:p.chunk x=if x=255 then p.on p.c.text else if x.toNat / 32 ≠ (if p.c.word then 3 else 2) \/ x.toNat % 32=31 then p.on (p.c.fail 2) else p.head x:=rfl
 have HT:=hhh (kU hi hw hf.c hn);have HF:=hhh (cZ hi hw 2);have HH:=hhh (nI hi hw hf hn x);obtain ⟨-,-,c4,-⟩:=Core.Is.cell hi hw
 cases hwd:p.c.word
 all_goals
  rw [hwd] at c4 HP0;have HPh:=hhh HP0;clear hi hw hf HP0 hwd;by_cases hx:x=255
  ·have hx2:x.toNat=255:=by rw [hx];rfl
   have HP:=hhh (HPh.o.trans (ifp hx));have hx3:(x.toNat:Int)=255:=by omega
   clear HPh hx hx2 HF HH;go_enter func181,ntmps181;go_wp2_with (fail);refine cleaf HT.o (fun t=>t) HP ?_;intro v w4 G;go_wp2;go_ret;exact G.out
  ·have hx2:x.toNat ≠ 255:=fun e=>hx (UInt8.toNat_inj.1 e)
   have hx3:((x.toNat:Int) == 255)=false:=by rw [bfn];omega
   have HPi:=hhh (HPh.o.trans (ifn hx));clear HPh hx hx2;by_cases hm:x.toNat / 32=2 \/ x.toNat / 32=3
   ·rcases hm with hm | hm
    all_goals
     rw [hm] at HPi
     first
     | have hM:(x.toNat:Int) / 32=2:=by omega
     | have hM:(x.toNat:Int) / 32=3:=by omega
     by_cases hl:x.toNat % 32=31
     ·have HP:=hhh (HPi.o.trans (ifp (.inr hl)))
      have hL:(x.toNat:Int) % 32=31:=by omega
      clear HPi hl hm HH HT;go_enter func181,ntmps181;go_wp2_with (fail);refine cleaf HF.o (fun t=>t) HP ?_;intro v w4 G;go_wp2;go_ret;exact G.out
     ·have hL:((x.toNat:Int) % 32 == 31)=false:=by rw [bfn];omega
      first
      |have HP:=hhh (HPi.o.trans (ifn (by simp [hl])))
       clear HPi hl hm HF HT;go_enter func181,ntmps181;go_wp2_with (fail);refine dleaf HH.o (fun t=>t) HP ?_;intro v w4 G;go_wp2;go_ret;exact G.out
      |have HP:=hhh (HPi.o.trans (ifp (.inl (by simp))))
       clear HPi hl hm HH HT;go_enter func181,ntmps181;go_wp2_with (fail);refine cleaf HF.o (fun t=>t) HP ?_;intro v w4 G;go_wp2;go_ret;exact G.out
   ·have hm2:((x.toNat:Int) / 32 != 2)=true:=by rw [bne_iff_ne];omega
    have hm3:((x.toNat:Int) / 32 != 3)=true:=by rw [bne_iff_ne];omega
    have HP:=hhh (HPi.o.trans (ifp (.inl (by simp;omega))));clear HPi hm HH HT;go_enter func181,ntmps181;go_wp2_with (fail);refine cleaf HF.o (fun t=>t) HP ?_;intro v w4 G;go_wp2;go_ret;exact G.out
theorem aFp {n : Nat} (hi : p.Is b h) (hw : Own.Has w h) (hf : p.Fits n) (hn : n ≤ 1000000) (x : UInt8) :
  Calls prog 182 #[.pointer (some ⟨b,0,none⟩),.int .u8 (x.toNat:Int)] w (fE (p.item x) b h w):=by
 have hlt:=UInt8.toNat_lt x;obtain ⟨M,hM⟩:∃ M,M=x.toNat / 32:=⟨_,rfl⟩;obtain ⟨L,hL⟩:∃ L,L=x.toNat % 32:=⟨_,rfl⟩
 have HP0 : p.item x = if p.c.done = true then p.on (p.c.fail 2) else if (28 ≤ L ∧ L < 31) ∨ (L = 31 ∧ (M ≤ 1 ∨ M = 6)) then p.on (p.c.fail 2) else if x = 255 then p.on p.c.break
   else if (p.c.atKey=true /\ M ≠ 3) \/ M=6 then p.on (p.c.fail 8) else if M=7 then p.simple L else if (M=4 \/ M=5) /\ p.c.full=true then p.on (p.c.fail 4) else p.head x:=by rw [hM,hL];rfl
 have h255:x=255 ↔ M=7 /\ L=31:=by
  constructor
  ·intro e;rw [e] at hM hL;exact ⟨hM,hL⟩
  ·intro e;exact UInt8.toNat_inj.1 (show x.toNat=255 by omega)
 simp only [h255] at HP0;have HF:=hhh (fun (u:World) (t:Own.aA h h w u) e=>cZ hi t.has e);have HF0:=hhh (fun e=>cZ hi hw e);have HD:=hhh (uF hi hw);have HB:=hhh (aAb hi hw hf.c hn);have HA:=hhh (rJ hi hw hf.c);have HFu:=hhh (fun (u:World) (t:Own.aA h h w u)=>uJ hi t.has);have HH:=hhh (fun (u:World) (t:Own.aA h h w u)=>nI hi t.has hf hn x);have HS0:=fun (u:World) (t:Own.aA h h w u)=>wW hi t.has hf.c hn L
 have hLc:(L:Int)=(x.toNat:Int) % 32:=by omega
 simp only [hLc] at HS0;have HS:=hhh HS0;have TR:=hhh (Own.aA.refl hw);have HPh:=hhh HP0;have HM8:M <= 7:=by omega
 have HL:=hhh hL;have HMM:=hhh hM;generalize p.item x=O at HPh |-;clear hi hw hf HP0 h255 HS0 hLc hL hM hn;go_enter func182,ntmps182;go_wp2_with (fail);refine HD.o.mono ?_;rintro e w1 ⟨rfl,rfl⟩
 cases hd:p.c.done
 case true =>
  have HP:=hhh (HPh.o.trans (ifp hd));clear HPh hd;go_wp2_with (fail);refine cleaf (HF0.o 2) (fun t=>t) HP ?_;intro v w4 G;go_wp2;go_ret;exact G.out
 case false =>
  have HPd:=hhh (HPh.o.trans (ifn (by rw [hd];exact Bool.false_ne_true)));clear HPh hd;by_cases hmid:28 <= L /\ L < 31
  ·have HP:=hhh (HPd.o.trans (ifp (.inl hmid)))
   have q1:(28:Int) <= (x.toNat:Int) % 32:=by have:=HL.o;omega
   have q2:(x.toNat:Int) % 32 < 31:=by have:=HL.o;omega
   clear HPd hmid;go_wp2_with (fail);refine cleaf (HF0.o 2) (fun t=>t) HP ?_;intro v w4 G;go_wp2;go_ret;exact G.out
  have hL2:L < 28 \/ L=31:=by have:=HL.o;omega
  clear hmid;rcases (show M=0 \/ M=1 \/ M=2 \/ M=3 \/ M=4 \/ M=5 \/ M=6 \/ M=7 by omega) with rfl | rfl | rfl | rfl | rfl | rfl | rfl | rfl
  ·have qM:(x.toNat:Int) / 32=0:=by have:=HMM.o;omega
   rcases hL2 with hL2 | hL2
   ·have q1:¬ (28:Int) <= (x.toNat:Int) % 32:=by have:=HL.o;omega
    have q2:((x.toNat:Int) % 32 == 31)=false:=by rw [bfn];have:=HL.o;omega
    clear HMM HL;have q3:((x.toNat:Int) == 255)=false:=by rw [bfn];omega
    have HPe:=hhh ((HPd.o.trans (ifn (by omega))).trans (ifn (by omega)));clear HPd hL2;go_wp2_with (fail);refine HA.o.mono ?_;rintro e w2 ⟨rfl,t2⟩;have T2:=hhh t2;clear t2
    cases hk:p.c.atKey
    ·have HPf:=hhh (HPe.o.trans (ifn (by rw [hk];simp)))
     clear HPe hk;have HP:=hhh ((HPf.o.trans (ifn (by omega))).trans (ifn (by rintro ⟨h,_⟩;omega)));clear HPf;go_wp2_with (fail);refine dleaf (HH.o _ T2.o) (fun t=>T2.o.trans t) HP ?_;intro v w4 G;go_wp2;go_ret;exact G.out
    ·have HP:=hhh (HPe.o.trans (ifp (.inl ⟨hk,by omega⟩)))
     clear HPe hk;go_wp2_with (fail);refine cleaf (HF.o _ T2.o 8) (fun t=>T2.o.trans t) HP ?_;intro v w4 G;go_wp2;go_ret;exact G.out
   ·have q1:(x.toNat:Int) % 32=31:=by have:=HL.o;omega
    clear HMM HL;have HP:=hhh (HPd.o.trans (ifp (.inr ⟨hL2,by omega⟩)));clear HPd hL2;go_wp2_with (fail);refine cleaf (HF0.o 2) (fun t=>t) HP ?_;intro v w4 G;go_wp2;go_ret;exact G.out
  ·have qM:(x.toNat:Int) / 32=1:=by have:=HMM.o;omega
   rcases hL2 with hL2 | hL2
   ·have q1:¬ (28:Int) <= (x.toNat:Int) % 32:=by have:=HL.o;omega
    have q2:((x.toNat:Int) % 32 == 31)=false:=by rw [bfn];have:=HL.o;omega
    clear HMM HL;have q3:((x.toNat:Int) == 255)=false:=by rw [bfn];omega
    have HPe:=hhh ((HPd.o.trans (ifn (by omega))).trans (ifn (by omega)));clear HPd hL2;go_wp2_with (fail);refine HA.o.mono ?_;rintro e w2 ⟨rfl,t2⟩;have T2:=hhh t2;clear t2
    cases hk:p.c.atKey
    ·have HPf:=hhh (HPe.o.trans (ifn (by rw [hk];simp)))
     clear HPe hk;have HP:=hhh ((HPf.o.trans (ifn (by omega))).trans (ifn (by rintro ⟨h,_⟩;omega)));clear HPf;go_wp2_with (fail);refine dleaf (HH.o _ T2.o) (fun t=>T2.o.trans t) HP ?_;intro v w4 G;go_wp2;go_ret;exact G.out
    ·have HP:=hhh (HPe.o.trans (ifp (.inl ⟨hk,by omega⟩)))
     clear HPe hk;go_wp2_with (fail);refine cleaf (HF.o _ T2.o 8) (fun t=>T2.o.trans t) HP ?_;intro v w4 G;go_wp2;go_ret;exact G.out
   ·have q1:(x.toNat:Int) % 32=31:=by have:=HL.o;omega
    clear HMM HL;have HP:=hhh (HPd.o.trans (ifp (.inr ⟨hL2,by omega⟩)));clear HPd hL2;go_wp2_with (fail);refine cleaf (HF0.o 2) (fun t=>t) HP ?_;intro v w4 G;go_wp2;go_ret;exact G.out
  ·have qM:(x.toNat:Int) / 32=2:=by have:=HMM.o;omega
   rcases hL2 with hL2 | hL2
   ·have q1:¬ (28:Int) <= (x.toNat:Int) % 32:=by have:=HL.o;omega
    have q2:((x.toNat:Int) % 32 == 31)=false:=by rw [bfn];have:=HL.o;omega
    clear HMM HL;have q3:((x.toNat:Int) == 255)=false:=by rw [bfn];omega
    have HPe:=hhh ((HPd.o.trans (ifn (by omega))).trans (ifn (by omega)));clear HPd hL2;go_wp2_with (fail);refine HA.o.mono ?_;rintro e w2 ⟨rfl,t2⟩;have T2:=hhh t2;clear t2
    cases hk:p.c.atKey
    ·have HPf:=hhh (HPe.o.trans (ifn (by rw [hk];simp)))
     clear HPe hk;have HP:=hhh ((HPf.o.trans (ifn (by omega))).trans (ifn (by rintro ⟨h,_⟩;omega)));clear HPf;go_wp2_with (fail);refine dleaf (HH.o _ T2.o) (fun t=>T2.o.trans t) HP ?_;intro v w4 G;go_wp2;go_ret;exact G.out
    ·have HP:=hhh (HPe.o.trans (ifp (.inl ⟨hk,by omega⟩)))
     clear HPe hk;go_wp2_with (fail);refine cleaf (HF.o _ T2.o 8) (fun t=>T2.o.trans t) HP ?_;intro v w4 G;go_wp2;go_ret;exact G.out
   ·have q1:(x.toNat:Int) % 32=31:=by have:=HL.o;omega
    clear HMM HL;have q3:((x.toNat:Int) == 255)=false:=by rw [bfn];omega
    have HPe:=hhh ((HPd.o.trans (ifn (by omega))).trans (ifn (by omega)));clear HPd hL2;go_wp2_with (fail);refine HA.o.mono ?_;rintro e w2 ⟨rfl,t2⟩;have T2:=hhh t2;clear t2
    cases hk:p.c.atKey
    ·have HPf:=hhh (HPe.o.trans (ifn (by rw [hk];simp)))
     clear HPe hk;have HP:=hhh ((HPf.o.trans (ifn (by omega))).trans (ifn (by rintro ⟨h,_⟩;omega)));clear HPf;go_wp2_with (fail);refine dleaf (HH.o _ T2.o) (fun t=>T2.o.trans t) HP ?_;intro v w4 G;go_wp2;go_ret;exact G.out
    ·have HP:=hhh (HPe.o.trans (ifp (.inl ⟨hk,by omega⟩)))
     clear HPe hk;go_wp2_with (fail);refine cleaf (HF.o _ T2.o 8) (fun t=>T2.o.trans t) HP ?_;intro v w4 G;go_wp2;go_ret;exact G.out
  ·have qM:(x.toNat:Int) / 32=3:=by have:=HMM.o;omega
   rcases hL2 with hL2 | hL2
   ·have q1:¬ (28:Int) <= (x.toNat:Int) % 32:=by have:=HL.o;omega
    have q2:((x.toNat:Int) % 32 == 31)=false:=by rw [bfn];have:=HL.o;omega
    clear HMM HL;have q3:((x.toNat:Int) == 255)=false:=by rw [bfn];omega
    have HPe:=hhh ((HPd.o.trans (ifn (by omega))).trans (ifn (by omega)));clear HPd hL2;go_wp2_with (fail);refine HA.o.mono ?_;rintro e w2 ⟨rfl,t2⟩;have T2:=hhh t2;clear t2
    cases hk:p.c.atKey
    ·have HPf:=hhh (HPe.o.trans (ifn (by rw [hk];simp)))
     clear HPe hk;have HP:=hhh ((HPf.o.trans (ifn (by omega))).trans (ifn (by rintro ⟨h,_⟩;omega)));clear HPf;go_wp2_with (fail);refine dleaf (HH.o _ T2.o) (fun t=>T2.o.trans t) HP ?_;intro v w4 G;go_wp2;go_ret;exact G.out
    ·have HPf:=hhh (HPe.o.trans (ifn (by rw [hk];simp)))
     clear HPe hk;have HP:=hhh ((HPf.o.trans (ifn (by omega))).trans (ifn (by rintro ⟨h,_⟩;omega)));clear HPf;go_wp2_with (fail);refine dleaf (HH.o _ T2.o) (fun t=>T2.o.trans t) HP ?_;intro v w4 G;go_wp2;go_ret;exact G.out
   ·have q1:(x.toNat:Int) % 32=31:=by have:=HL.o;omega
    clear HMM HL;have q3:((x.toNat:Int) == 255)=false:=by rw [bfn];omega
    have HPe:=hhh ((HPd.o.trans (ifn (by omega))).trans (ifn (by omega)));clear HPd hL2;go_wp2_with (fail);refine HA.o.mono ?_;rintro e w2 ⟨rfl,t2⟩;have T2:=hhh t2;clear t2
    cases hk:p.c.atKey
    ·have HPf:=hhh (HPe.o.trans (ifn (by rw [hk];simp)))
     clear HPe hk;have HP:=hhh ((HPf.o.trans (ifn (by omega))).trans (ifn (by rintro ⟨h,_⟩;omega)));clear HPf;go_wp2_with (fail);refine dleaf (HH.o _ T2.o) (fun t=>T2.o.trans t) HP ?_;intro v w4 G;go_wp2;go_ret;exact G.out
    ·have HPf:=hhh (HPe.o.trans (ifn (by rw [hk];simp)))
     clear HPe hk;have HP:=hhh ((HPf.o.trans (ifn (by omega))).trans (ifn (by rintro ⟨h,_⟩;omega)));clear HPf;go_wp2_with (fail);refine dleaf (HH.o _ T2.o) (fun t=>T2.o.trans t) HP ?_;intro v w4 G;go_wp2;go_ret;exact G.out
  ·have qM:(x.toNat:Int) / 32=4:=by have:=HMM.o;omega
   rcases hL2 with hL2 | hL2
   ·have q1:¬ (28:Int) <= (x.toNat:Int) % 32:=by have:=HL.o;omega
    have q2:((x.toNat:Int) % 32 == 31)=false:=by rw [bfn];have:=HL.o;omega
    clear HMM HL;have q3:((x.toNat:Int) == 255)=false:=by rw [bfn];omega
    have HPe:=hhh ((HPd.o.trans (ifn (by omega))).trans (ifn (by omega)));clear HPd hL2;go_wp2_with (fail);refine HA.o.mono ?_;rintro e w2 ⟨rfl,t2⟩;have T2:=hhh t2;clear t2
    cases hk:p.c.atKey
    ·have HPf:=hhh (HPe.o.trans (ifn (by rw [hk];simp)))
     clear HPe hk;go_wp2_with (fail);refine (HFu.o _ T2.o).mono ?_;rintro e w3 ⟨rfl,t3⟩;have T3:=hhh (T2.o.trans t3);clear t3
     cases hu:p.c.full
     ·have HP:=hhh ((HPf.o.trans (ifn (by omega))).trans (ifn (by rw [hu];simp)))
      clear HPf hu;go_wp2_with (fail);refine dleaf (HH.o _ T3.o) (fun t=>T3.o.trans t) HP ?_;intro v w4 G;go_wp2;go_ret;exact G.out
     ·have HP:=hhh ((HPf.o.trans (ifn (by omega))).trans (ifp ⟨by simp,hu⟩))
      clear HPf hu;go_wp2_with (fail);refine cleaf (HF.o _ T3.o 4) (fun t=>T3.o.trans t) HP ?_;intro v w4 G;go_wp2;go_ret;exact G.out
    ·have HP:=hhh (HPe.o.trans (ifp (.inl ⟨hk,by omega⟩)))
     clear HPe hk;go_wp2_with (fail);refine cleaf (HF.o _ T2.o 8) (fun t=>T2.o.trans t) HP ?_;intro v w4 G;go_wp2;go_ret;exact G.out
   ·have q1:(x.toNat:Int) % 32=31:=by have:=HL.o;omega
    clear HMM HL;have q3:((x.toNat:Int) == 255)=false:=by rw [bfn];omega
    have HPe:=hhh ((HPd.o.trans (ifn (by omega))).trans (ifn (by omega)));clear HPd hL2;go_wp2_with (fail);refine HA.o.mono ?_;rintro e w2 ⟨rfl,t2⟩;have T2:=hhh t2;clear t2
    cases hk:p.c.atKey
    ·have HPf:=hhh (HPe.o.trans (ifn (by rw [hk];simp)))
     clear HPe hk;go_wp2_with (fail);refine (HFu.o _ T2.o).mono ?_;rintro e w3 ⟨rfl,t3⟩;have T3:=hhh (T2.o.trans t3);clear t3
     cases hu:p.c.full
     ·have HP:=hhh ((HPf.o.trans (ifn (by omega))).trans (ifn (by rw [hu];simp)))
      clear HPf hu;go_wp2_with (fail);refine dleaf (HH.o _ T3.o) (fun t=>T3.o.trans t) HP ?_;intro v w4 G;go_wp2;go_ret;exact G.out
     ·have HP:=hhh ((HPf.o.trans (ifn (by omega))).trans (ifp ⟨by simp,hu⟩))
      clear HPf hu;go_wp2_with (fail);refine cleaf (HF.o _ T3.o 4) (fun t=>T3.o.trans t) HP ?_;intro v w4 G;go_wp2;go_ret;exact G.out
    ·have HP:=hhh (HPe.o.trans (ifp (.inl ⟨hk,by omega⟩)))
     clear HPe hk;go_wp2_with (fail);refine cleaf (HF.o _ T2.o 8) (fun t=>T2.o.trans t) HP ?_;intro v w4 G;go_wp2;go_ret;exact G.out
  ·have qM:(x.toNat:Int) / 32=5:=by have:=HMM.o;omega
   rcases hL2 with hL2 | hL2
   ·have q1:¬ (28:Int) <= (x.toNat:Int) % 32:=by have:=HL.o;omega
    have q2:((x.toNat:Int) % 32 == 31)=false:=by rw [bfn];have:=HL.o;omega
    clear HMM HL;have q3:((x.toNat:Int) == 255)=false:=by rw [bfn];omega
    have HPe:=hhh ((HPd.o.trans (ifn (by omega))).trans (ifn (by omega)));clear HPd hL2;go_wp2_with (fail);refine HA.o.mono ?_;rintro e w2 ⟨rfl,t2⟩;have T2:=hhh t2;clear t2
    cases hk:p.c.atKey
    ·have HPf:=hhh (HPe.o.trans (ifn (by rw [hk];simp)))
     clear HPe hk;go_wp2_with (fail);refine (HFu.o _ T2.o).mono ?_;rintro e w3 ⟨rfl,t3⟩;have T3:=hhh (T2.o.trans t3);clear t3
     cases hu:p.c.full
     ·have HP:=hhh ((HPf.o.trans (ifn (by omega))).trans (ifn (by rw [hu];simp)))
      clear HPf hu;go_wp2_with (fail);refine dleaf (HH.o _ T3.o) (fun t=>T3.o.trans t) HP ?_;intro v w4 G;go_wp2;go_ret;exact G.out
     ·have HP:=hhh ((HPf.o.trans (ifn (by omega))).trans (ifp ⟨by simp,hu⟩))
      clear HPf hu;go_wp2_with (fail);refine cleaf (HF.o _ T3.o 4) (fun t=>T3.o.trans t) HP ?_;intro v w4 G;go_wp2;go_ret;exact G.out
    ·have HP:=hhh (HPe.o.trans (ifp (.inl ⟨hk,by omega⟩)))
     clear HPe hk;go_wp2_with (fail);refine cleaf (HF.o _ T2.o 8) (fun t=>T2.o.trans t) HP ?_;intro v w4 G;go_wp2;go_ret;exact G.out
   ·have q1:(x.toNat:Int) % 32=31:=by have:=HL.o;omega
    clear HMM HL;have q3:((x.toNat:Int) == 255)=false:=by rw [bfn];omega
    have HPe:=hhh ((HPd.o.trans (ifn (by omega))).trans (ifn (by omega)));clear HPd hL2;go_wp2_with (fail);refine HA.o.mono ?_;rintro e w2 ⟨rfl,t2⟩;have T2:=hhh t2;clear t2
    cases hk:p.c.atKey
    ·have HPf:=hhh (HPe.o.trans (ifn (by rw [hk];simp)))
     clear HPe hk;go_wp2_with (fail);refine (HFu.o _ T2.o).mono ?_;rintro e w3 ⟨rfl,t3⟩;have T3:=hhh (T2.o.trans t3);clear t3
     cases hu:p.c.full
     ·have HP:=hhh ((HPf.o.trans (ifn (by omega))).trans (ifn (by rw [hu];simp)))
      clear HPf hu;go_wp2_with (fail);refine dleaf (HH.o _ T3.o) (fun t=>T3.o.trans t) HP ?_;intro v w4 G;go_wp2;go_ret;exact G.out
     ·have HP:=hhh ((HPf.o.trans (ifn (by omega))).trans (ifp ⟨by simp,hu⟩))
      clear HPf hu;go_wp2_with (fail);refine cleaf (HF.o _ T3.o 4) (fun t=>T3.o.trans t) HP ?_;intro v w4 G;go_wp2;go_ret;exact G.out
    ·have HP:=hhh (HPe.o.trans (ifp (.inl ⟨hk,by omega⟩)))
     clear HPe hk;go_wp2_with (fail);refine cleaf (HF.o _ T2.o 8) (fun t=>T2.o.trans t) HP ?_;intro v w4 G;go_wp2;go_ret;exact G.out
  ·have qM:(x.toNat:Int) / 32=6:=by have:=HMM.o;omega
   rcases hL2 with hL2 | hL2
   ·have q1:¬ (28:Int) <= (x.toNat:Int) % 32:=by have:=HL.o;omega
    have q2:((x.toNat:Int) % 32 == 31)=false:=by rw [bfn];have:=HL.o;omega
    clear HMM HL;have q3:((x.toNat:Int) == 255)=false:=by rw [bfn];omega
    have HPe:=hhh ((HPd.o.trans (ifn (by omega))).trans (ifn (by omega)));clear HPd hL2;go_wp2_with (fail);refine HA.o.mono ?_;rintro e w2 ⟨rfl,t2⟩;have T2:=hhh t2;clear t2
    cases hk:p.c.atKey
    ·have HP:=hhh (HPe.o.trans (ifp (by simp)))
     clear HPe hk;go_wp2_with (fail);refine cleaf (HF.o _ T2.o 8) (fun t=>T2.o.trans t) HP ?_;intro v w4 G;go_wp2;go_ret;exact G.out
    ·have HP:=hhh (HPe.o.trans (ifp (by simp)))
     clear HPe hk;go_wp2_with (fail);refine cleaf (HF.o _ T2.o 8) (fun t=>T2.o.trans t) HP ?_;intro v w4 G;go_wp2;go_ret;exact G.out
   ·have q1:(x.toNat:Int) % 32=31:=by have:=HL.o;omega
    clear HMM HL;have HP:=hhh (HPd.o.trans (ifp (.inr ⟨hL2,by omega⟩)));clear HPd hL2;go_wp2_with (fail);refine cleaf (HF0.o 2) (fun t=>t) HP ?_;intro v w4 G;go_wp2;go_ret;exact G.out
  ·have qM:(x.toNat:Int) / 32=7:=by have:=HMM.o;omega
   rcases hL2 with hL2 | hL2
   ·have q1:¬ (28:Int) <= (x.toNat:Int) % 32:=by have:=HL.o;omega
    have q2:((x.toNat:Int) % 32 == 31)=false:=by rw [bfn];have:=HL.o;omega
    clear HMM HL;have q3:((x.toNat:Int) == 255)=false:=by rw [bfn];omega
    have HPe:=hhh ((HPd.o.trans (ifn (by omega))).trans (ifn (by omega)));clear HPd hL2;go_wp2_with (fail);refine HA.o.mono ?_;rintro e w2 ⟨rfl,t2⟩;have T2:=hhh t2;clear t2
    cases hk:p.c.atKey
    ·have HPf:=hhh (HPe.o.trans (ifn (by rw [hk];simp)))
     clear HPe hk;have HP:=hhh (HPf.o.trans (ifp (by simp)));clear HPf;go_wp2_with (fail);refine dleaf (HS.o _ T2.o) (fun t=>T2.o.trans t) HP ?_;intro v w4 G;go_wp2;go_ret;exact G.out
    ·have HP:=hhh (HPe.o.trans (ifp (.inl ⟨hk,by omega⟩)))
     clear HPe hk;go_wp2_with (fail);refine cleaf (HF.o _ T2.o 8) (fun t=>T2.o.trans t) HP ?_;intro v w4 G;go_wp2;go_ret;exact G.out
   ·have q1:(x.toNat:Int) % 32=31:=by have:=HL.o;omega
    clear HMM HL;have HP:=hhh ((HPd.o.trans (ifn (by omega))).trans (ifp ⟨by simp,hL2⟩));have q3:(x.toNat:Int)=255:=by omega
    clear HPd hL2;go_wp2_with (fail);refine cleaf (HB.o) (fun t=>t) HP ?_;intro v w4 G;go_wp2;go_ret;exact G.out
end
end Pip
end
section
open Go.RowKit
open Json (Part)
namespace Pip
section
variable {p:Cin} {b:Nat} {h:Own.Heap} {w:World}
theorem xP {n : Nat} (hi : p.Is b h) (hw : Own.Has w h) (hf : p.Fits n) (hn : n ≤ 1000000) (x : UInt8) :
  Calls prog 176 #[.pointer (some ⟨b,0,none⟩),.int .u8 (x.toNat:Int)] w (wA (p.step x) b h w):=by
 obtain ⟨c3,-,-,c5,c6⟩:=Core.Is.cell hi hw;have c19:=Core.Is.gO hi hw 7 _ rfl;have TR:=hhh (Own.aA.refl hw);have HI:=hhh hi;rcases Nat.eq_zero_or_pos p.c.e with h0 | h0
 ·have HP0:p.step x=((p.act x).1,(p.act x).2,(p.act x).1.c.e):=by unfold Cin.step;rw [ifn (by omega)]
  have HA:p.act x=if 0 < p.c.lack then p.on (p.c.byte x) else if p.begun=true then p.head x else if p.c.chunks=true then p.chunk x else p.item x:=rfl
  have HL:=hhh (rT hi hw);have H1:=fun (hl:0 < p.c.lack)=>(uN hi hw hf.c hn hl x)
  have H2:=hhh (nI hi hw hf hn x);have H3:=hhh (aB2 hi hw hf hn x);have H4:=hhh (aFp hi hw hf hn x);rw [h0] at c3;generalize p.step x=S at HP0 |-;have fin:∀ A:Cin × List Part,p.act x=A -> ∀ (v:Value) (hv h':Own.Heap) (w':World),Own.Slc 20 (aF A.2) v hv -> A.1.Is b h' -> Own.aA h (hv ++ h') w w' -> wA S b h w (.returned (.tuple #[v,.int .i64 (A.1.c.e:Int)])) w':=by
   intro A hA v hv h' w' s i t;rw [HP0,hA];exact ⟨v,hv,h',rfl,s,i,t⟩
  have Fin:=hhh fin;have HAh:=hhh HA;clear hi hw hf HP0 HA fin hn h0;by_cases hl:0 < p.c.lack
  ·have HP:=hhh (HAh.o.trans (ifp hl))
   have HC:=hhh (H1 hl);have hld:decide (0 < p.c.lack)=true:=by simpa using hl
   rw [hld] at HL;clear hl hld H1 H2 H3 H4 HAh;go_enter func176,ntmps176;go_wp2_with (fail);refine HL.o.mono ?_;rintro e w2 ⟨rfl,rfl⟩;go_wp2_with (fail);refine HC.o.mono ?_;rintro e w4 ⟨v,hv,h4,rfl,hs,i4,t4⟩;have HI4:=hhh i4;have HT4:=hhh t4;have HS4:=hhh hs;obtain ⟨d3,-⟩:=Core.Is.cell i4 t4.has.right;clear i4 t4 hs;go_wp2;go_quiet (fail);go_wp2;go_ret2;exact Fin.o _ HP.o _ _ _ _ HS4.o HI4.o (HT4.o.drewN _)
  ·have HPn:=HAh.o.trans (ifn hl)
   have hld:decide (0 < p.c.lack)=false:=by simpa using hl
   rw [hld] at HL
   cases hb:p.begun
   case true =>
    have HP:=hhh (HPn.trans (ifp hb));rw [hb] at c19;clear hl hld H1 H3 H4 HAh HPn hb;go_enter func176,ntmps176;go_wp2_with (fail);refine HL.o.mono ?_;rintro e w2 ⟨rfl,rfl⟩;go_wp2_with (fail);refine H2.o.mono ?_;rintro e w4 ⟨v,hv,h4,rfl,hs,i4,t4⟩;have HI4:=hhh i4;have HT4:=hhh t4;have HS4:=hhh hs;obtain ⟨d3,-⟩:=Core.Is.cell i4 t4.has.right;clear i4 t4 hs;go_wp2;go_quiet (fail);go_wp2;go_ret2;exact Fin.o _ HP.o _ _ _ _ HS4.o HI4.o (HT4.o.drewN _)
   case false =>
    have HPm:=HPn.trans (ifn (by rw [hb];exact Bool.false_ne_true));rw [hb] at c19
    cases hc:p.c.chunks
    case true =>
     have HP:=hhh (HPm.trans (ifp hc));rw [hc] at c5;clear hl hld H1 H2 H4 HAh HPn HPm hb hc;go_enter func176,ntmps176;go_wp2_with (fail);refine HL.o.mono ?_;rintro e w2 ⟨rfl,rfl⟩;go_wp2_with (fail);refine H3.o.mono ?_;rintro e w4 ⟨v,hv,h4,rfl,hs,i4,t4⟩;have HI4:=hhh i4;have HT4:=hhh t4;have HS4:=hhh hs;obtain ⟨d3,-⟩:=Core.Is.cell i4 t4.has.right;clear i4 t4 hs;go_wp2;go_quiet (fail);go_wp2;go_ret2;exact Fin.o _ HP.o _ _ _ _ HS4.o HI4.o (HT4.o.drewN _)
    case false =>
     have HP:=hhh (HPm.trans (ifn (by rw [hc];exact Bool.false_ne_true)));rw [hc] at c5;clear hl hld H1 H2 H3 HAh HPn HPm hb hc;go_enter func176,ntmps176;go_wp2_with (fail);refine HL.o.mono ?_;rintro e w2 ⟨rfl,rfl⟩;go_wp2_with (fail);refine H4.o.mono ?_;rintro e w4 ⟨v,hv,h4,rfl,hs,i4,t4⟩;have HI4:=hhh i4;have HT4:=hhh t4;have HS4:=hhh hs;obtain ⟨d3,-⟩:=Core.Is.cell i4 t4.has.right;clear i4 t4 hs;go_wp2;go_quiet (fail);go_wp2;go_ret2;exact Fin.o _ HP.o _ _ _ _ HS4.o HI4.o (HT4.o.drewN _)
 ·have HP:=hhh (show p.step x=(p,[],p.c.e) by unfold Cin.step;rw [ifp (by omega)])
  have hne:((p.c.e:Int) != 0)=true:=by rw [bne_iff_ne];omega
  clear hi hw hf hn h0;go_enter func176,ntmps176;go_wp2;go_quiet (fail);go_wp2;go_ret2;rw [HP.o];exact ⟨_,[],h,rfl,.bare _ rfl,HI.o,TR.o.drewN _⟩
end
end Pip
end
section
open Go.RowKit
open Json (Part)
namespace Pip
theorem iD (m:Nat) (hm:m < 9223372036854775808):bits .xor .i64 (-1) (-1 - (m:Int))=(m:Int):=by
 show IntKind.i64.wrap ((BitVec.ofInt 64 (-1) ^^^ BitVec.ofInt 64 (-1 - (m:Int))).toNat:Int)=_;have h1:BitVec.ofInt 64 (-1)=BitVec.allOnes 64:=by decide
 rw [h1,BitVec.allOnes_xor,BitVec.toNat_not,BitVec.toNat_ofInt];simp [IntKind.wrap,IntKind.bits,IntKind.signed];omega
section
variable {p:Pin} {b:Nat} {h:Own.Heap} {w:World}
theorem zG {n : Nat} (hi : p.Is b h) (hw : Own.Has w h) (hf : p.Fits n) (hn : n ≤ 1000000) (h0 : p.c.e = 0) (hk : p.kind ≠ 0) (x : UInt8) :
  Calls prog 202 #[.pointer (some ⟨b,0,none⟩),.int .u8 (x.toNat:Int)] w (bH (p.number x) b h w):=by
 have hlt:=UInt8.toNat_lt x;have hvlt:=Pin.aGa hf h0 hk x;obtain ⟨g1,g2,g3,g4,g5,g6⟩:=hf.busy h0 hk;have hk6:=hf.kind;have hle:256 ^ (p.all - (p.lack - 1)) <= 256 ^ p.all:=Nat.pow_le_pow_right (by decide) (Nat.sub_le _ _);have h64:=tX p.all g3;obtain ⟨V,hV⟩:∃ V,V=(p.v * 256 + x.toNat) % 18446744073709551616:=⟨_,rfl⟩;have hVa:V < 256 ^ p.all:=by rw [hV,Nat.mod_eq_of_lt (by omega)];omega
 have hor:=aMl p.v x.toNat hlt;rw [<- hV] at hor;obtain ⟨K,hK⟩:∃ K,K=p.lack - 1:=⟨_,rfl⟩;have hkm:(p.lack:Int) - 1=(K:Int):=by omega
 have hK8:K < 8:=by omega
 have HP0:p.number x=if 1 < p.lack then (⟨p.c,p.kind,K,p.all,V⟩,[]) else (Pin.mk p.c 0 K p.all V).behind p.kind V:=by rw [hK,hV];rfl
 obtain ⟨c12,c13,c14,c15⟩:=hi.aB9 hw;have f12:=Core.Is.free hi hw 12;have f13:=Core.Is.free hi hw 13;have f15:=Core.Is.free hi hw 15;have HI:=hhh hi
 have T1:=hhh (show ∃ h',(Pin.mk p.c p.kind K p.all V).Is b h' /\ Own.aA h h' w ((w.setCell ⟨b,15,none⟩ (.int .u64 (V:Int))).setCell ⟨b,13,none⟩ (.int .i64 (K:Int))) by
  obtain ⟨ov,sv,ho,hs,h1,h2,rfl⟩:=hi
  exact ⟨_,⟨ov,sv,ho,hs,h1,h2,rfl⟩,((Own.aA.refl hw).put 15 (.int .u64 (V:Int)) _ rfl).put 13 (.int .i64 (K:Int)) _ rfl⟩)
 have T2:=hhh (show ∃ h',(Pin.mk p.c 0 K p.all V).Is b h' /\ Own.aA h h' w (((w.setCell ⟨b,15,none⟩ (.int .u64 (V:Int))).setCell ⟨b,13,none⟩ (.int .i64 (K:Int))).setCell ⟨b,12,none⟩ (.int .i64 0)) by
  obtain ⟨ov,sv,ho,hs,h1,h2,rfl⟩:=hi
  exact ⟨_,⟨ov,sv,ho,hs,h1,h2,rfl⟩,(((Own.aA.refl hw).put 15 (.int .u64 (V:Int)) _ rfl).put 13 (.int .i64 (K:Int)) _ rfl).put 12 (.int .i64 0) _ rfl⟩)
 have HFc:=hhh hf.c;have Hn:=hhh hn;have HVa:=hhh hVa;have HPh:=hhh HP0;generalize p.number x=O at HPh |-;have fin:∀ P:Pin × List Part,O=P -> ∀ (e:Ending) (w':World),bH P b h w e w' -> bH O b h w e w':=fun P hP e w' hd=>hP ▸ hd
 have Fin:=hhh fin;by_cases hl:1 < p.lack
 ·have HP:=hhh (HPh.o.trans (ifp hl))
  have hKI:(0:Int) < (K:Int):=by omega
  obtain ⟨h2,i2,t2⟩:=T1.o;have HI2:=hhh i2;have HT2:=hhh t2;clear hi hw hf HP0 hle h64 hV hVa hvlt hK T1 T2 hl g1 g2 g3 g4 g5 g6 hk h0 hn fin hk6 i2 t2 HPh;go_enter func202,ntmps202;go_wp2_with (fail);go_ret;exact Fin.o _ HP.o _ _ ⟨_,[],h2,rfl,.bare _ rfl,HI2.o,HT2.o⟩
 ·have HPn:=hhh (HPh.o.trans (ifn hl))
  obtain rfl:K=0:=by omega
  obtain ⟨h2,i2,t2⟩:=T2.o;have HI2:=hhh i2;have HT2:=hhh t2;have HVal:=hhh (fun n v=>dX i2 (t2.drewN n).has HFc.o Hn.o v);have HLe:=hhh (fun n wd m=>iC i2 (t2.drewN n).has HFc.o Hn.o wd m);have HCo:=hhh (fun n pr m=>lN i2 (t2.drewN n).has HFc.o Hn.o pr m);have HVal0:=hhh (fun v=>dX i2 t2.has HFc.o Hn.o v);have HLe0:=hhh (fun wd m=>iC i2 t2.has HFc.o Hn.o wd m);have HCo0:=hhh (fun pr m=>lN i2 t2.has HFc.o Hn.o pr m);obtain ⟨M,hM⟩:∃ M,M=p.kind:=⟨_,rfl⟩;obtain ⟨A,hA⟩:∃ A,A=p.all:=⟨_,rfl⟩;rw [<- hM] at c12 HPn;rw [<- hA] at c14 HVa;have Hq:=hhh (ai hA g3);have hM1:1 <= M:=by omega
  have hM6:M <= 6:=by omega
  clear hi hw hf HP0 hle h64 hV hVa hvlt hK T1 T2 hl g1 g2 g3 g4 g5 g6 hk h0 hn fin hk6 i2 t2 HPh hM hA;rcases (show M=1 \/ M=2 \/ M=3 \/ M=4 \/ M=5 \/ M=6 by omega) with rfl | rfl | rfl | rfl | rfl | rfl
  ·have HP:=hhh (HPn.o.trans (show _=(Pin.mk p.c 0 0 p.all V).on (p.c.value (.whole false V)) from rfl))
   clear HPn;go_enter func202,ntmps202;go_wp2_with (fail);go_region_with (go_at_call 190;(first | refine (HVal.o _ (.whole false V)).mono ?_ | refine (HVal0.o (.whole false V)).mono ?_);rintro e w4 ⟨v,hv,h4,rfl,hs,i4,t4⟩)
   all_goals
    have HI4:=hhh i4;have HT4:=hhh ((HT2.o.drewN _).trans t4);have HS4:=hhh hs;clear i4 t4 hs;go_wp2;go_ret;exact Fin.o _ HP.o _ _ ⟨_,hv,h4,rfl,HS4.o,HI4.o,HT4.o⟩
  ·clear HVal HCo HCo0 HLe HLe0
   obtain ⟨hA,g3⟩:=Hq.o;rw [<- hA] at g3;have HA:=hhh hA;clear hA Hq;rcases g3 with rfl | rfl | rfl | rfl
   ·have hVa:=HVa.o
    simp only [Nat.reducePow] at hVa;by_cases hs:V < 128
    ·have HP:=hhh (HPn.o.trans (show _=(Pin.mk p.c 0 0 p.all V).on (p.c.value (.whole false V)) by
      rw [<- HA.o];show (Pin.mk p.c 0 0 1 V).on (p.c.value (.whole (signed V 1).1 (signed V 1).2))=_
      rw [show signed V 1=(false,V) by unfold signed;rw [ifp (by simpa using hs)]]))
     have e1:wrap64 (IntKind.u64.wrap ((V:Int) * 72057594037927936)) / 72057594037927936=(V:Int):=by unfold wrap64;rw [IntKind.wrap_u64];omega
     have e2:IntKind.u64.wrap (V:Int)=(V:Int):=by rw [IntKind.wrap_u64];omega
     have HVv:=hhh (HVal0.o (.whole false V));clear HPn HVal0 HVa hVa HA hs;go_enter func202,ntmps202;go_wp2_with (fail);refine (HVv.o).mono ?_;rintro e w4 ⟨v,hv,h4,rfl,hs,i4,t4⟩;have HI4:=hhh i4;have HT4:=hhh (HT2.o.trans t4);have HS4:=hhh hs;clear i4 t4 hs HVv;go_wp2;go_ret;exact Fin.o _ HP.o _ _ ⟨_,hv,h4,rfl,HS4.o,HI4.o,HT4.o⟩
    ·obtain ⟨m,hm⟩:∃ m,m=255 - V:=⟨_,rfl⟩
     have HP:=hhh (HPn.o.trans (show _=(Pin.mk p.c 0 0 p.all V).on (p.c.value (.whole true m)) by
      rw [<- HA.o];show (Pin.mk p.c 0 0 1 V).on (p.c.value (.whole (signed V 1).1 (signed V 1).2))=_
      rw [show signed V 1=(true,m) by unfold signed;rw [ifn (by simpa using hs),hm]]))
     obtain ⟨Y,hY⟩:∃ Y:Int,Y = -1 - (m:Int):=⟨_,rfl⟩;have e1:wrap64 (IntKind.u64.wrap ((V:Int) * 72057594037927936)) / 72057594037927936=Y:=by unfold wrap64;rw [IntKind.wrap_u64];omega
     have e2:bits .xor .i64 (-1) Y=(m:Int):=by rw [hY];exact iD m (by omega)
     have e3:IntKind.u64.wrap (m:Int)=(m:Int):=by rw [IntKind.wrap_u64];omega
     have e4:Y < 0:=by omega
     have HVv:=hhh (HVal0.o (.whole true m));clear HPn HVal0 HVa hVa HA hs hY hm;go_enter func202,ntmps202;go_wp2_with (fail);refine (HVv.o).mono ?_;rintro e w4 ⟨v,hv,h4,rfl,hs,i4,t4⟩;have HI4:=hhh i4;have HT4:=hhh (HT2.o.trans t4);have HS4:=hhh hs;clear i4 t4 hs HVv;go_wp2;go_ret;exact Fin.o _ HP.o _ _ ⟨_,hv,h4,rfl,HS4.o,HI4.o,HT4.o⟩
   ·have hVa:=HVa.o
    simp only [Nat.reducePow] at hVa;by_cases hs:V < 32768
    ·have HP:=hhh (HPn.o.trans (show _=(Pin.mk p.c 0 0 p.all V).on (p.c.value (.whole false V)) by
      rw [<- HA.o];show (Pin.mk p.c 0 0 2 V).on (p.c.value (.whole (signed V 2).1 (signed V 2).2))=_
      rw [show signed V 2=(false,V) by unfold signed;rw [ifp (by simpa using hs)]]))
     have e1:wrap64 (IntKind.u64.wrap ((V:Int) * 281474976710656)) / 281474976710656=(V:Int):=by unfold wrap64;rw [IntKind.wrap_u64];omega
     have e2:IntKind.u64.wrap (V:Int)=(V:Int):=by rw [IntKind.wrap_u64];omega
     have HVv:=hhh (HVal0.o (.whole false V));clear HPn HVal0 HVa hVa HA hs;go_enter func202,ntmps202;go_wp2_with (fail);refine (HVv.o).mono ?_;rintro e w4 ⟨v,hv,h4,rfl,hs,i4,t4⟩;have HI4:=hhh i4;have HT4:=hhh (HT2.o.trans t4);have HS4:=hhh hs;clear i4 t4 hs HVv;go_wp2;go_ret;exact Fin.o _ HP.o _ _ ⟨_,hv,h4,rfl,HS4.o,HI4.o,HT4.o⟩
    ·obtain ⟨m,hm⟩:∃ m,m=65535 - V:=⟨_,rfl⟩
     have HP:=hhh (HPn.o.trans (show _=(Pin.mk p.c 0 0 p.all V).on (p.c.value (.whole true m)) by
      rw [<- HA.o];show (Pin.mk p.c 0 0 2 V).on (p.c.value (.whole (signed V 2).1 (signed V 2).2))=_
      rw [show signed V 2=(true,m) by unfold signed;rw [ifn (by simpa using hs),hm]]))
     obtain ⟨Y,hY⟩:∃ Y:Int,Y = -1 - (m:Int):=⟨_,rfl⟩;have e1:wrap64 (IntKind.u64.wrap ((V:Int) * 281474976710656)) / 281474976710656=Y:=by unfold wrap64;rw [IntKind.wrap_u64];omega
     have e2:bits .xor .i64 (-1) Y=(m:Int):=by rw [hY];exact iD m (by omega)
     have e3:IntKind.u64.wrap (m:Int)=(m:Int):=by rw [IntKind.wrap_u64];omega
     have e4:Y < 0:=by omega
     have HVv:=hhh (HVal0.o (.whole true m));clear HPn HVal0 HVa hVa HA hs hY hm;go_enter func202,ntmps202;go_wp2_with (fail);refine (HVv.o).mono ?_;rintro e w4 ⟨v,hv,h4,rfl,hs,i4,t4⟩;have HI4:=hhh i4;have HT4:=hhh (HT2.o.trans t4);have HS4:=hhh hs;clear i4 t4 hs HVv;go_wp2;go_ret;exact Fin.o _ HP.o _ _ ⟨_,hv,h4,rfl,HS4.o,HI4.o,HT4.o⟩
   ·have hVa:=HVa.o
    simp only [Nat.reducePow] at hVa;by_cases hs:V < 2147483648
    ·have HP:=hhh (HPn.o.trans (show _=(Pin.mk p.c 0 0 p.all V).on (p.c.value (.whole false V)) by
      rw [<- HA.o];show (Pin.mk p.c 0 0 4 V).on (p.c.value (.whole (signed V 4).1 (signed V 4).2))=_
      rw [show signed V 4=(false,V) by unfold signed;rw [ifp (by simpa using hs)]]))
     have e1:wrap64 (IntKind.u64.wrap ((V:Int) * 4294967296)) / 4294967296=(V:Int):=by unfold wrap64;rw [IntKind.wrap_u64];omega
     have e2:IntKind.u64.wrap (V:Int)=(V:Int):=by rw [IntKind.wrap_u64];omega
     have HVv:=hhh (HVal0.o (.whole false V));clear HPn HVal0 HVa hVa HA hs;go_enter func202,ntmps202;go_wp2_with (fail);refine (HVv.o).mono ?_;rintro e w4 ⟨v,hv,h4,rfl,hs,i4,t4⟩;have HI4:=hhh i4;have HT4:=hhh (HT2.o.trans t4);have HS4:=hhh hs;clear i4 t4 hs HVv;go_wp2;go_ret;exact Fin.o _ HP.o _ _ ⟨_,hv,h4,rfl,HS4.o,HI4.o,HT4.o⟩
    ·obtain ⟨m,hm⟩:∃ m,m=4294967295 - V:=⟨_,rfl⟩
     have HP:=hhh (HPn.o.trans (show _=(Pin.mk p.c 0 0 p.all V).on (p.c.value (.whole true m)) by
      rw [<- HA.o];show (Pin.mk p.c 0 0 4 V).on (p.c.value (.whole (signed V 4).1 (signed V 4).2))=_
      rw [show signed V 4=(true,m) by unfold signed;rw [ifn (by simpa using hs),hm]]))
     obtain ⟨Y,hY⟩:∃ Y:Int,Y = -1 - (m:Int):=⟨_,rfl⟩;have e1:wrap64 (IntKind.u64.wrap ((V:Int) * 4294967296)) / 4294967296=Y:=by unfold wrap64;rw [IntKind.wrap_u64];omega
     have e2:bits .xor .i64 (-1) Y=(m:Int):=by rw [hY];exact iD m (by omega)
     have e3:IntKind.u64.wrap (m:Int)=(m:Int):=by rw [IntKind.wrap_u64];omega
     have e4:Y < 0:=by omega
     have HVv:=hhh (HVal0.o (.whole true m));clear HPn HVal0 HVa hVa HA hs hY hm;go_enter func202,ntmps202;go_wp2_with (fail);refine (HVv.o).mono ?_;rintro e w4 ⟨v,hv,h4,rfl,hs,i4,t4⟩;have HI4:=hhh i4;have HT4:=hhh (HT2.o.trans t4);have HS4:=hhh hs;clear i4 t4 hs HVv;go_wp2;go_ret;exact Fin.o _ HP.o _ _ ⟨_,hv,h4,rfl,HS4.o,HI4.o,HT4.o⟩
   ·have hVa:=HVa.o
    simp only [Nat.reducePow] at hVa;by_cases hs:V < 9223372036854775808
    ·have HP:=hhh (HPn.o.trans (show _=(Pin.mk p.c 0 0 p.all V).on (p.c.value (.whole false V)) by
      rw [<- HA.o];show (Pin.mk p.c 0 0 8 V).on (p.c.value (.whole (signed V 8).1 (signed V 8).2))=_
      rw [show signed V 8=(false,V) by unfold signed;rw [ifp (by simpa using hs)]]))
     have e1:wrap64 (V:Int)=(V:Int):=by unfold wrap64;omega
     have e2:IntKind.u64.wrap (V:Int)=(V:Int):=by rw [IntKind.wrap_u64];omega
     have HVv:=hhh (HVal0.o (.whole false V));clear HPn HVal0 HVa hVa HA hs;go_enter func202,ntmps202;go_wp2_with (fail);refine (HVv.o).mono ?_;rintro e w4 ⟨v,hv,h4,rfl,hs,i4,t4⟩;have HI4:=hhh i4;have HT4:=hhh (HT2.o.trans t4);have HS4:=hhh hs;clear i4 t4 hs HVv;go_wp2;go_ret;exact Fin.o _ HP.o _ _ ⟨_,hv,h4,rfl,HS4.o,HI4.o,HT4.o⟩
    ·obtain ⟨m,hm⟩:∃ m,m=18446744073709551615 - V:=⟨_,rfl⟩
     have HP:=hhh (HPn.o.trans (show _=(Pin.mk p.c 0 0 p.all V).on (p.c.value (.whole true m)) by
      rw [<- HA.o];show (Pin.mk p.c 0 0 8 V).on (p.c.value (.whole (signed V 8).1 (signed V 8).2))=_
      rw [show signed V 8=(true,m) by unfold signed;rw [ifn (by simpa using hs),hm]]))
     obtain ⟨Y,hY⟩:∃ Y:Int,Y = -1 - (m:Int):=⟨_,rfl⟩;have e1:wrap64 (IntKind.u64.wrap (V:Int))=Y:=by unfold wrap64;rw [IntKind.wrap_u64];omega
     have e2:bits .xor .i64 (-1) Y=(m:Int):=by rw [hY];exact iD m (by omega)
     have e3:IntKind.u64.wrap (m:Int)=(m:Int):=by rw [IntKind.wrap_u64];omega
     have e4:Y < 0:=by omega
     have HVv:=hhh (HVal0.o (.whole true m));clear HPn HVal0 HVa hVa HA hs hY hm;go_enter func202,ntmps202;go_wp2_with (fail);refine (HVv.o).mono ?_;rintro e w4 ⟨v,hv,h4,rfl,hs,i4,t4⟩;have HI4:=hhh i4;have HT4:=hhh (HT2.o.trans t4);have HS4:=hhh hs;clear i4 t4 hs HVv;go_wp2;go_ret;exact Fin.o _ HP.o _ _ ⟨_,hv,h4,rfl,HS4.o,HI4.o,HT4.o⟩
  ·have HP:=hhh (HPn.o.trans (show _=(Pin.mk p.c 0 0 p.all V).on (p.c.length false V) from rfl))
   clear HPn HVal HCo HVal0 HCo0;go_enter func202,ntmps202;go_wp2_with (fail);go_region_with (go_at_call 191;(first | refine (HLe.o _ false V).mono ?_ | refine (HLe0.o false V).mono ?_);rintro e w4 ⟨v,hv,h4,rfl,hs,i4,t4⟩)
   all_goals
    have HI4:=hhh i4;have HT4:=hhh ((HT2.o.drewN _).trans t4);have HS4:=hhh hs;clear i4 t4 hs;go_wp2;go_ret;exact Fin.o _ HP.o _ _ ⟨_,hv,h4,rfl,HS4.o,HI4.o,HT4.o⟩
  ·have HP:=hhh (HPn.o.trans (show _=(Pin.mk p.c 0 0 p.all V).on (p.c.length true V) from rfl))
   clear HPn HVal HCo HVal0 HCo0;go_enter func202,ntmps202;go_wp2_with (fail);go_region_with (go_at_call 191;(first | refine (HLe.o _ true V).mono ?_ | refine (HLe0.o true V).mono ?_);rintro e w4 ⟨v,hv,h4,rfl,hs,i4,t4⟩)
   all_goals
    have HI4:=hhh i4;have HT4:=hhh ((HT2.o.drewN _).trans t4);have HS4:=hhh hs;clear i4 t4 hs;go_wp2;go_ret;exact Fin.o _ HP.o _ _ ⟨_,hv,h4,rfl,HS4.o,HI4.o,HT4.o⟩
  ·have HP:=hhh (HPn.o.trans (show _=(Pin.mk p.c 0 0 p.all V).count false V from rfl))
   clear HPn HVal HLe HVal0 HLe0;go_enter func202,ntmps202;go_wp2_with (fail);refine (HCo0.o false V).mono ?_;rintro e w4 ⟨v,hv,h4,rfl,hs,i4,t4⟩;have HI4:=hhh i4;have HT4:=hhh (HT2.o.trans t4);have HS4:=hhh hs;clear i4 t4 hs;go_wp2;go_ret;exact Fin.o _ HP.o _ _ ⟨_,hv,h4,rfl,HS4.o,HI4.o,HT4.o⟩
  ·have HP:=hhh (HPn.o.trans (show _=(Pin.mk p.c 0 0 p.all V).count true V from rfl))
   clear HPn HVal HLe HVal0 HLe0;go_enter func202,ntmps202;go_wp2_with (fail);refine (HCo0.o true V).mono ?_;rintro e w4 ⟨v,hv,h4,rfl,hs,i4,t4⟩;have HI4:=hhh i4;have HT4:=hhh (HT2.o.trans t4);have HS4:=hhh hs;clear i4 t4 hs;go_wp2;go_ret;exact Fin.o _ HP.o _ _ ⟨_,hv,h4,rfl,HS4.o,HI4.o,HT4.o⟩
end
end Pip
end
section
open Go.RowKit
open Json (Part)
namespace Pip
section
variable {p:Pin} {b:Nat} {h:Own.Heap} {w:World}
theorem yX {n : Nat} (hi : p.Is b h) (hw : Own.Has w h) (hf : p.Fits n) (hn : n ≤ 1000000) (x : UInt8) :
  Calls prog 201 #[.pointer (some ⟨b,0,none⟩),.int .u8 (x.toNat:Int)] w (xU (p.step x) b h w):=by
 obtain ⟨c3,-,-,-,-⟩:=Core.Is.cell hi hw;obtain ⟨c12,-⟩:=hi.aB9 hw;have TR:=hhh (Own.aA.refl hw);have HI:=hhh hi;rcases Nat.eq_zero_or_pos p.c.e with h0 | h0
 ·have HP0:p.step x=((p.act x).1,(p.act x).2,(p.act x).1.c.e):=by unfold Pin.step;rw [ifn (by omega)]
  have HA:p.act x=if 0 < p.c.lack then p.on (p.c.byte x) else if p.kind ≠ 0 then p.number x else p.item x:=rfl
  have HL:=hhh (rT hi hw);have H1:=fun (hl:0 < p.c.lack)=>(uN hi hw hf.c hn hl x)
  have H2:=fun (hk:p.kind ≠ 0)=>(zG hi hw hf hn h0 hk x)
  have H4:=hhh (aEg hi hw hf hn x);rw [h0] at c3;generalize p.step x=S at HP0 |-;have fin:∀ A:Pin × List Part,p.act x=A -> ∀ (v:Value) (hv h':Own.Heap) (w':World),Own.Slc 20 (aF A.2) v hv -> A.1.Is b h' -> Own.aA h (hv ++ h') w w' -> xU S b h w (.returned (.tuple #[v,.int .i64 (A.1.c.e:Int)])) w':=by
   intro A hA v hv h' w' s i t;rw [HP0,hA];exact ⟨v,hv,h',rfl,s,i,t⟩
  have Fin:=hhh fin;have HAh:=hhh HA;clear hi hw hf HP0 HA fin hn h0;by_cases hl:0 < p.c.lack
  ·have HP:=hhh (HAh.o.trans (ifp hl))
   have HC:=hhh (H1 hl);have hld:decide (0 < p.c.lack)=true:=by simpa using hl
   rw [hld] at HL;clear hl hld H1 H2 H4 HAh;go_enter func201,ntmps201;go_wp2_with (fail);refine HL.o.mono ?_;rintro e w2 ⟨rfl,rfl⟩;go_wp2_with (fail);refine HC.o.mono ?_;rintro e w4 ⟨v,hv,h4,rfl,hs,i4,t4⟩;have HI4:=hhh i4;have HT4:=hhh t4;have HS4:=hhh hs;obtain ⟨d3,-⟩:=Core.Is.cell i4 t4.has.right;clear i4 t4 hs;go_wp2;go_quiet (fail);go_wp2;go_ret2;exact Fin.o _ HP.o _ _ _ _ HS4.o HI4.o (HT4.o.drewN _)
  ·have HPn:=HAh.o.trans (ifn hl)
   have hld:decide (0 < p.c.lack)=false:=by simpa using hl
   rw [hld] at HL;rcases Nat.eq_zero_or_pos p.kind with hk | hk
   ·have HP:=hhh (HPn.trans (ifn (by omega)))
    rw [hk] at c12;clear hl hld H1 H2 HAh HPn hk;go_enter func201,ntmps201;go_wp2_with (fail);refine HL.o.mono ?_;rintro e w2 ⟨rfl,rfl⟩;go_wp2_with (fail);refine H4.o.mono ?_;rintro e w4 ⟨v,hv,h4,rfl,hs,i4,t4⟩;have HI4:=hhh i4;have HT4:=hhh t4;have HS4:=hhh hs;obtain ⟨d3,-⟩:=Core.Is.cell i4 t4.has.right;clear i4 t4 hs;go_wp2;go_quiet (fail);go_wp2;go_ret2;exact Fin.o _ HP.o _ _ _ _ HS4.o HI4.o (HT4.o.drewN _)
   ·have HP:=hhh (HPn.trans (ifp (by omega)))
    have H2k:=hhh (H2 (by omega));have hkb:((p.kind:Int) != 0)=true:=by rw [bne_iff_ne];omega
    clear hl hld H1 H2 H4 HAh HPn hk;go_enter func201,ntmps201;go_wp2_with (fail);refine HL.o.mono ?_;rintro e w2 ⟨rfl,rfl⟩;go_wp2_with (fail);refine H2k.o.mono ?_;rintro e w4 ⟨v,hv,h4,rfl,hs,i4,t4⟩;have HI4:=hhh i4;have HT4:=hhh t4;have HS4:=hhh hs;obtain ⟨d3,-⟩:=Core.Is.cell i4 t4.has.right;clear i4 t4 hs;go_wp2;go_quiet (fail);go_wp2;go_ret2;exact Fin.o _ HP.o _ _ _ _ HS4.o HI4.o (HT4.o.drewN _)
 ·have HP:=hhh (show p.step x=(p,[],p.c.e) by unfold Pin.step;rw [ifp (by omega)])
  have hne:((p.c.e:Int) != 0)=true:=by rw [bne_iff_ne];omega
  clear hi hw hf hn h0;go_enter func201,ntmps201;go_wp2;go_quiet (fail);go_wp2;go_ret2;rw [HP.o];exact ⟨_,[],h,rfl,.bare _ rfl,HI.o,TR.o.drewN _⟩
end
end Pip
end
end Go.Proofs.YtcjflgmcjfcodaaGreat
