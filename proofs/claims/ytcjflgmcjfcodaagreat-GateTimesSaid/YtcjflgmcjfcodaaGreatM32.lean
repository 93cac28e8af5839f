/- Texts of the walk, joined. -/
import Derived.Test.YtcjflgmcjfcodaaGreatM25
import Derived.Test.YtcjflgmcjfcodaaGreatM26
set_option maxRecDepth 100000
set_option maxHeartbeats 8000000
namespace Go.Proofs.Tryz end Go.Proofs.Tryz
namespace Go.Proofs.YtcjflgmcjfcodaaGreat
open Go.Proofs.Tryz
section
open Go.RowKit
open Json (Part)
namespace Pip
section
variable {s:Stg} {b:Nat} {h:Own.Heap} {w:World}
theorem zA (hi : s.Is b h) (hw : Own.Has w h) (v : Part) (h0 : s.e ≠ 0) :
  Calls prog 109 #[.pointer (some ⟨b,0,none⟩),v.val] w (jH (s.step v) b h w):=by
 have HP:=hhh (show s.step v=(s,[],s.e) by unfold Stg.step;rw [ifp h0]);have HI:=hhh hi;have TR:=hhh (Own.aA.refl hw);obtain ⟨ha,hc,oa,oc,hh,ho,rfl,h1,h2⟩:=hi.cV;have c4:=hw.cell b _ _ mcs 4 _ rfl;have hne:((s.e:Int) != 0)=true:=by rw [bne_iff_ne];omega
 obtain ⟨V,hV⟩:∃ V,V=v.val:=⟨_,rfl⟩;rw [<- hV];clear hi hw h1 h2 hV h0;go_enter func109,ntmps109;go_wp2;go_quiet (fail);go_wp2;go_ret2;rw [HP.o];exact ⟨_,[],_,rfl,.bare _ rfl,HI.o,TR.o.drewN _⟩
theorem aAd (hi : s.Is b h) (hw : Own.Has w h) (v : Part) (hm : v.may = true) (h0 : s.e = 0) (ho : s.opened = []) (hop : Part_opens v = false) :
  Calls prog 109 #[.pointer (some ⟨b,0,none⟩),v.val] w (jH (s.step v) b h w):=by
 have HP:=hhh (show s.step v=(s,[v],0) by unfold Stg.step;rw [ifn (by omega),ifn (by rw [hm];simp),ifp ⟨ho,hop⟩]);have HI:=hhh hi;have TR:=hhh (Own.aA.refl hw);obtain ⟨ha,hc,oa,oc,hh,hq,rfl,h1,h2⟩:=hi.cV;have aB:=Json.eP v;obtain ⟨m0,n0,is,e1,e2,e3,e4⟩:=kD v;rw [e1,e2] at aB;have hcase:is=false \/ (is=true /\ 0 <= n0):=by
  cases his:is with
  | false=>exact .inl rfl
  | true =>
   refine .inr ⟨rfl,?_⟩;rw [e3 his] at hop;simpa [Part_opens] using hop
 obtain ⟨V,hV⟩:∃ V,V=v.val:=⟨_,rfl⟩;obtain ⟨pa,pb,pm,ps,pc,hpl⟩:=Json.cB v V hV w;rw [hm] at hpl;rw [<- hV] at aB |-;have HC:=hhh hpl;have c4:=hw.cell b _ _ mcs 4 _ rfl;rw [h0] at c4;have hs:=eR v;rw [<- hV] at hs;have HV:=hhh hV;rw [ho] at *
 clear hi h1 h2 hV h0 hpl hop hm e1 e2 e3 e4;rcases hs with rfl | ⟨T0,y0,rfl⟩
 all_goals
  rcases hcase with rfl | ⟨rfl,hn0⟩
  all_goals
   go_enter func109,ntmps109;go_wp2_with (fail);refine HC.o.mono ?_;rintro e w1 ⟨rfl,b1⟩;have T1:=hhh (TR.o.trans (Own.aA.aJ TR.o.has b1));have d3:=fun o o'=>((T1.o.aD o).aD o').has.cell b _ _ mcs 3 _ rfl
   go_wp2_with (fail);go_ret2;rw [HP.o];refine ⟨_,[Own.row _ 20 [v.val]],_,rfl,Own.Slc.row (e:=20) (xs:=aF [v]) _ [] [] (by show (1:Nat) <= maxLen;decide),HI.o,?_⟩;rw [<- HV.o];exact (((T1.o.aD _).aD _).aP (w1.heap.size + 1 + 1) (by rw [Json.size_alloc,Json.size_alloc]) 20 [_])
theorem sL (hi : s.Is b h) (hw : Own.Has w h) (hf : s.Fits) (h0 : s.e = 0) (L : List jM) (c : jM) (hl : s.opened = L ++ [c]) :
  Calls prog 109 #[.pointer (some ⟨b,0,none⟩),Part.close.val] w (jH (s.step .close) b h w):=by
 have HP:=hhh (show s.step .close=s.close by unfold Stg.step;rw [ifn (by omega),ifn (by simp [Part.may]),ifn (by rw [hl];simp)];exact ifp rfl);have TR:=hhh (Own.aA.refl hw);have HCl:=hhh (fun (u:World) (t:Own.aA h h w u)=>fS hi t.has hf L c hl);obtain ⟨ha,hc,oa,oc,hh,hq,rfl,h1,h2⟩:=hi.cV;have aB:=Json.eP .close;have aC:=Json.eK .close;obtain ⟨V,hV⟩:∃ V,V=Part.close.val:=⟨_,rfl⟩;obtain ⟨pa,pb,pm,ps,pc,hpl⟩:=Json.cB .close V hV w;rw [<- hV] at aB aC |-;rw [show Part.close.may=true from rfl] at hpl;rw [show Part.close.isBegin=false from rfl,show Part.close.inBegin = .agg #[.bool false,.int .i64 0] from rfl] at aB;rw [show Part.close.isClose=true from rfl,show Part.close.inClose = .agg #[] from rfl] at aC;have HC:=hhh hpl;have c4:=hw.cell b _ _ mcs 4 _ rfl;rw [h0] at c4;have hlen:s.opened.length=L.length + 1:=by rw [hl];simp
 obtain ⟨N,hN⟩:∃ N,N=L.length:=⟨_,rfl⟩;rw [<- hN] at hlen;have hnb:(((N + 1:Nat):Int) == 0)=false:=by rw [bfn];omega
 rw [hlen] at TR HCl |-;clear hi hw hf h1 h2 hV h0 hpl hl hlen hN;go_enter func109,ntmps109;go_wp2_with (fail);refine HC.o.mono ?_;rintro e w1 ⟨rfl,b1⟩;have T1:=hhh (TR.o.trans (Own.aA.aJ TR.o.has b1));have d3:=fun o o'=>((T1.o.aD o).aD o').has.cell b _ _ mcs 3 _ rfl
 go_wp2_with (fail);refine (HCl.o _ (((T1.o.aD _).aD _).aD _)).mono ?_;rintro e w4 ⟨v,hv,h4,rfl,hs,i4,t4⟩;have HI4:=hhh i4;have HT4:=hhh (((((T1.o.aD _).aD _).aD _)).trans t4);have HS4:=hhh hs;clear i4 t4 hs;go_wp2;go_ret2;rw [HP.o];exact ⟨_,hv,h4,rfl,HS4.o,HI4.o,HT4.o⟩
theorem infoHold:(prog.info? 224).map (fun i=>(i.zero,i.size,i.bytes))=some (some (.agg #[.int .i64 0,.int .i64 0]),2,16):=by kernel_rfl
theorem sS (hi : s.Is b h) (hw : Own.Has w h) (hf : s.Fits) (h0 : s.e = 0) (m : Bool) (n : Int) (hn : n = -1) (hl : s.opened = []) :
  Calls prog 109 #[.pointer (some ⟨b,0,none⟩),(Part.aG m n).val] w (jH (s.step (.aG m n)) b h w):=by
 subst hn
 have HP:=hhh (show s.step (.aG m (-1))=(((Stg.mk s.limit s.held s.size [⟨s.held.length,0⟩] s.e).hold (.aG m (-1))).1,[],((Stg.mk s.limit s.held s.size [⟨s.held.length,0⟩] s.e).hold (.aG m (-1))).2) by
  unfold Stg.step;rw [ifn (by omega),ifn (by simp [Part.may]),ifn (by simp [Part_opens]),ifn (by simp [Part_closes])];unfold Stg.aR;rw [hl]
  rfl)
 have TR:=hhh (Own.aA.refl hw);obtain ⟨i0,hi0,e0⟩:=Option.map_eq_some_iff.1 infoHold;simp only [Prod.mk.injEq] at e0;obtain ⟨hz,hsz,hby⟩:=e0;have Hi:=hhh (ai hi0 (ai hz (ai hsz hby)));have hlim:=hf.limit;have hsz2:=hf.size;have hhl:=hf.held;obtain ⟨ha,hc,oa,oc,hh,hq,rfl,h1,h2⟩:=hi.cV;have HS1:=hhh h1;have aB:=Json.eP (.aG m (-1));have aC:=Json.eK (.aG m (-1));obtain ⟨V,hV⟩:∃ V,V=(Part.aG m (-1)).val:=⟨_,rfl⟩;obtain ⟨pa,pb,pm,ps,pc,hpl⟩:=Json.cB (.aG m (-1)) V hV w;rw [<- hV] at aB aC |-;rw [show (Part.aG m (-1)).may=true from rfl] at hpl;rw [show (Part.aG m (-1)).isBegin=true from rfl,show (Part.aG m (-1)).inBegin = .agg #[.bool m,.int .i64 (-1)] from rfl] at aB;rw [show (Part.aG m (-1)).isClose=false from rfl,show (Part.aG m (-1)).inClose = .agg #[] from rfl] at aC;have HC:=hhh hpl;have c4:=hw.cell b _ _ mcs 4 _ rfl;rw [h0] at c4;have hho:=hhh (fun (d:Stg) (u:World) (hk:Own.Heap) (i:d.Is b hk) (k:Own.Has u hk) (hd:d.size=s.size /\ d.held=s.held)=>iT i k (.aG m (-1)) rfl (show (1:Nat) <= 1001 by decide) (by rw [hd.1];omega) (by rw [hd.2];omega));rw [<- hV] at hho;rw [hl] at h2 TR |-;simp only [List.length_nil] at h2 TR |-;have HS2:=hhh h2;clear hi hw hf h1 h2 hV h0 hpl hl hi0 hz hsz hby hsz2;go_enter func109,ntmps109;go_wp2_with (fail);refine HC.o.mono ?_;rintro e w1 ⟨rfl,b1⟩;have T1:=hhh (TR.o.trans (Own.aA.aJ TR.o.has b1));have d3:=fun o o'=>((T1.o.aD o).aD o').has.cell b _ _ mcs 3 _ rfl
 have d3':=fun o o' o''=>(((T1.o.aD o).aD o').aD o'').has.cell b _ _ mcs 3 _ rfl
 have d1':=fun o o' o''=>(((T1.o.aD o).aD o').aD o'').has.cell b _ _ mcs 1 _ rfl
 go_wp2_with (fail);have d34:=fun o o' o'' o3=>((((T1.o.aD o).aD o').aD o'').aD o3).has.cell b _ _ mcs 3 _ rfl
 have d14:=fun o o' o'' o3=>((((T1.o.aD o).aD o').aD o'').aD o3).has.cell b _ _ mcs 1 _ rfl
 have HW:=hhh (fun A B C=>((((((T1.o.aD A).aD B).aD C).aP (w1.heap.size + 1 + 1 + 1) (by rw [Json.size_alloc,Json.size_alloc,Json.size_alloc]) 224 [.int .i64 (s.held.length:Int),.int .i64 0]).drew).perm (.refl _)
  (Own.aE _ (Own.row (w1.heap.size + 1 + 1 + 1) 224 [.int .i64 (s.held.length:Int),.int .i64 0] :: (hq ++ (Own.row b 168 (s.cells (.slice ha s.held.length hc) (.slice oa 0 oc)) :: hh))) fun x=>by simp only [List.count_append,List.count_cons];omega)))
 go_region_law (refine Own.cC rfl _ _ 166 rfl 224 i0 (.agg #[.int .i64 0,.int .i64 0]) 2 16 underlying166 Hi.o.1 Hi.o.2.1 Hi.o.2.2.1 Hi.o.2.2.2 rfl (.slice oa 0 oc) 0 (aN []) hq _ rfl HS2.o (w1.heap.size + 1 + 1 + 1) _ (HW.o _ _ _).has rfl rfl ?hy ?c1 ?c2 ?_;(case hy=>(intro u hu;simp only [List.mem_cons,List.not_mem_nil,or_false] at hu;rcases hu with rfl | rfl <;> rfl));(case c1=>(simp only [maxLen];omega));(case c2=>omega);intro ad' c' h' w2 hs' ht';have k3:=ht'.has.cell b _ _ (mcm _ (List.mem_append_right _ mcs)) 3 _ rfl;have kf:=ht'.has.free b _ _ (mcm _ (List.mem_append_right _ mcs)) 3)
 all_goals
  have TB:=hhh (show Own.aA _ (Own.row b 168 (s.cells (.slice ha s.held.length hc) (.slice ad' 1 c')) :: (hh ++ h')) w (w2.setCell ⟨b,3,none⟩ (.slice ad' 1 c')) from
   ((((HW.o _ _ _).trans ht').forget (b:=[_])).perm (.refl _) List.perm_append_comm).put 3 (.slice ad' 1 c') _ rfl)
  have ID:=hhh (show (Stg.mk s.limit s.held s.size [⟨s.held.length,0⟩] s.e).Is b (Own.row b 168 (s.cells (.slice ha s.held.length hc) (.slice ad' 1 c')) :: (hh ++ h')) from
   ⟨.slice ha s.held.length hc,.slice ad' 1 c',hh,h',HS1.o,hs',rfl⟩)
  have HHo:=hhh (hho.o _ _ _ ID.o TB.o.has ⟨rfl,rfl⟩);clear hs' ht' k3 kf;go_wp2_with (fail);refine HHo.o.mono ?_;rintro e w6 ⟨rfl,h6,i6,t6⟩;have HI6:=hhh i6;have T6:=hhh (TB.o.trans t6);clear i6 t6;go_wp2;go_ret2;rw [HP.o];exact ⟨_,[],h6,rfl,.bare none rfl,HI6.o,T6.o⟩
end
end Pip
end
section
open Go.RowKit
open Json (Part)
namespace Pip
section
variable {s:Stg} {b:Nat} {h:Own.Heap} {w:World}
theorem vT (hi : s.Is b h) (hw : Own.Has w h) (hf : s.Fits) (h0 : s.e = 0) (L : List jM) (c : jM) (hl : s.opened = L ++ [c]) (v : Part) (hv : Fine v) (hc : Part_closes v = false) :
  Calls prog 109 #[.pointer (some ⟨b,0,none⟩),v.val] w (jH (s.step v) b h w):=by
 have hHP:s.step v=(((Stg.mk s.limit s.held s.size ((L ++ [⟨c.place,c.parts + 1⟩]) ++ (if Part_begins v then [⟨s.held.length,0⟩] else [])) s.e).hold v).1,[],((Stg.mk s.limit s.held s.size ((L ++ [⟨c.place,c.parts + 1⟩]) ++ (if Part_begins v then [⟨s.held.length,0⟩] else [])) s.e).hold v).2):=by
  unfold Stg.step;rw [ifn (by omega),ifn (by rw [hv.may];simp),ifn (by rw [hl];simp),ifn (by rw [hc];simp)];unfold Stg.aR;rw [hl];simp
 have TR:=hhh (Own.aA.refl hw);obtain ⟨i0,hi0,e0⟩:=Option.map_eq_some_iff.1 infoHold;simp only [Prod.mk.injEq] at e0;obtain ⟨hz,hsz,hby⟩:=e0;have Hi:=hhh (ai hi0 (ai hz (ai hsz hby)));have hlim:=hf.limit;have hsz2:=hf.size;have hhl:=hf.held;have hol:=hf.opened;have hcm:=hf.places c (by rw [hl];simp);have hvs:=hv.size;have hvm:=hv.may;have hho:=hhh (fun (d:Stg) (u:World) (hk:Own.Heap) (i:d.Is b hk) (k:Own.Has u hk) (hd:d.size=s.size /\ d.held=s.held)=>iT i k v hvm (by omega) (by rw [hd.1];omega) (by rw [hd.2];omega));have hlen:s.opened.length=L.length + 1:=by rw [hl];simp
 obtain ⟨ha,hc2,ob,m,spare,hh,rfl,h1,h2,h3⟩:=hi.last L c hl;have HS1:=hhh h3;have HSp:=hhh h1;have aB:=Json.eP v;have aC:=Json.eK v;obtain ⟨m0,n0,is,e1,e2,e3,e4⟩:=kD v;rw [e1,e2] at aB;have hcl:v.isClose=false:=by cases v <;> first | rfl | (simp [Part_closes] at hc)
 have hbg:Part_begins v=is:=by rw [<- e2];cases v <;> rfl
 rw [hcl,show v.inClose = .agg #[] from rfl] at aC;rw [hbg] at hHP;have HP:=hhh hHP;obtain ⟨V,hV⟩:∃ V,V=v.val:=⟨_,rfl⟩;obtain ⟨pa,pb,pm,ps,pc,hpl⟩:=Json.cB v V hV w;rw [<- hV] at aB aC hho |-;rw [hvm] at hpl;have HC:=hhh hpl;have c4:=hw.cell b _ _ mcs 4 _ rfl;rw [h0] at c4;obtain ⟨N,hN⟩:∃ N,N=L.length:=⟨_,rfl⟩;have HNe:=hhh hN;have hN2:N < 2000:=by omega
 rw [<- hN] at TR h2 hlen;rw [<- hN];have hnb:(((N + 1:Nat):Int) == 0)=false:=by rw [bfn];omega
 have htop:((N + 1:Nat):Int) - 1=(N:Int):=by omega
 have hpw:IntKind.i64.wrap ((c.parts:Int) + 1)=(c.parts:Int) + 1:=by rw [IntKind.wrap_i64];omega
 have Hml:=hhh h2;have Hobr:=hhh (show (Own.row ob 224 (aN L ++ ([.int .i64 (c.place:Int),.int .i64 (c.parts:Int)] ++ spare))) ∈ (Own.row b 168 (s.cells (.slice ha s.held.length hc2) (.slice (some ⟨ob,0,none⟩) (N + 1) (N + 1 + m))) :: (hh ++ [Own.row ob 224 (aN L ++ ([.int .i64 (c.place:Int),.int .i64 (c.parts:Int)] ++ spare))])) by simp);have hpc:(aN L ++ ([Value.int .i64 (c.place:Int),.int .i64 (c.parts:Int)] ++ spare))[N * 2 + 1]? = some (.int .i64 (c.parts:Int)):=by
  rw [hN,<- bL,List.getElem?_append_right (by omega)];simp
 have Hpc:=hhh hpc;clear hi hw hf h1 h2 h3 hV h0 hpl hl hi0 hz hsz hby hsz2 hHP hv hc hcl hbg e1 e2 e3 e4 hol hcm hlen hvs hvm hpc hN;go_enter func109,ntmps109;go_wp2_with (fail);refine HC.o.mono ?_;rintro e w1 ⟨rfl,b1⟩;have T1:=hhh (TR.o.trans (Own.aA.aJ TR.o.has b1));have d3:=fun o o'=>((T1.o.aD o).aD o').has.cell b _ _ mcs 3 _ rfl
 have d3':=fun o o' o''=>(((T1.o.aD o).aD o').aD o'').has.cell b _ _ mcs 3 _ rfl
 have dp:=fun o o' o''=>(((T1.o.aD o).aD o').aD o'').has.cell ob _ _ Hobr.o (N * 2 + 1) _ Hpc.o
 have dpf:=fun o o' o''=>(((T1.o.aD o).aD o').aD o'').has.free ob _ _ Hobr.o (N * 2 + 1)
 have Hset:=hhh (show (aN L ++ ([Value.int .i64 (c.place:Int),.int .i64 (c.parts:Int)] ++ spare)).set (N * 2 + 1) (.int .i64 ((c.parts:Int) + 1))=aN (L ++ [⟨c.place,c.parts + 1⟩]) ++ spare by
  rw [HNe.o,<- bL,List.set_append_right _ _ (by omega),fP]
  simp [aN])
 have T2:=hhh (fun A B C=>(show Own.aA _ ((Own.row b 168 (s.cells (.slice ha s.held.length hc2) (.slice (some ⟨ob,0,none⟩) (N + 1) (N + 1 + m)))) :: (hh ++ [Own.row ob 224 (aN (L ++ [⟨c.place,c.parts + 1⟩]) ++ spare)])) w ((((w1.alloc A).alloc B).alloc C).setCell ⟨ob,N * 2 + 1,none⟩ (.int .i64 ((c.parts:Int) + 1))) by
  have t0:=Own.aA.setAt ((Own.row b 168 (s.cells (.slice ha s.held.length hc2) (.slice (some ⟨ob,0,none⟩) (N + 1) (N + 1 + m)))) :: hh) (C:=[]) (((T1.o.aD A).aD B).aD C) (N * 2 + 1) (.int .i64 ((c.parts:Int) + 1)) (by rw [HNe.o];simp [bL]);rw [Hset.o] at t0
  exact t0))
 have HSl:=hhh (show Own.Slk 2 224 (N + 1) (aN (L ++ [⟨c.place,c.parts + 1⟩])) (.slice (some ⟨ob,0,none⟩) (N + 1) (N + 1 + m)) [Own.row ob 224 (aN (L ++ [⟨c.place,c.parts + 1⟩]) ++ spare)] from
  .row ob m spare (by rw [bL,lla,List.length_singleton,HNe.o]) HSp.o Hml.o)
 have Hlen:=hhh (show (L ++ [(⟨c.place,c.parts + 1⟩:jM)]).length=N + 1 by rw [lla,List.length_singleton,HNe.o])
 cases is
 ·obtain ⟨L2,hL2⟩:∃ L2,L2=L ++ [(⟨c.place,c.parts + 1⟩:jM)]:=⟨_,rfl⟩
  have HPp:=HP.o;rw [ifn Bool.false_ne_true,List.append_nil,<- hL2] at HPp;have HPq:=hhh HPp;have HL2:=hhh hL2;clear HPp hL2 HP
  have ID:=hhh (show (Stg.mk s.limit s.held s.size L2 s.e).Is b ((Own.row b 168 (s.cells (.slice ha s.held.length hc2) (.slice (some ⟨ob,0,none⟩) (N + 1) (N + 1 + m)))) :: (hh ++ [Own.row ob 224 (aN (L ++ [⟨c.place,c.parts + 1⟩]) ++ spare)])) from
   ⟨.slice ha s.held.length hc2,.slice (some ⟨ob,0,none⟩) (N + 1) (N + 1 + m),hh,[_],HS1.o,by simp only;rw [HL2.o,Hlen.o];exact HSl.o,rfl⟩)
  have HHo:=hhh (fun A B C=>hho.o _ _ _ ID.o (T2.o A B C).has ⟨rfl,rfl⟩);go_wp2_with (fail);refine (HHo.o _ _ _).mono ?_;rintro e w6 ⟨rfl,h6,i6,t6⟩;have HI6:=hhh i6;have T6:=hhh ((T2.o _ _ _).trans t6);clear i6 t6;go_wp2;go_ret2;rw [HPq.o];exact ⟨_,[],h6,rfl,.bare none rfl,HI6.o,T6.o⟩
 ·obtain ⟨L2,hL2⟩:∃ L2,L2=(L ++ [(⟨c.place,c.parts + 1⟩:jM)]) ++ [⟨s.held.length,0⟩]:=⟨_,rfl⟩
  have HPp:=HP.o;rw [ifp rfl,<- hL2] at HPp;have HPq:=hhh HPp;have HL2:=hhh hL2;clear HPp hL2 HP;have f3:=fun A B C=>(T2.o A B C).has.cell b _ _ mcs 3 _ rfl
  have f1:=fun A B C=>(T2.o A B C).has.cell b _ _ mcs 1 _ rfl
  have f34:=fun A B C D=>((T2.o A B C).aD D).has.cell b _ _ mcs 3 _ rfl
  have f14:=fun A B C D=>((T2.o A B C).aD D).has.cell b _ _ mcs 1 _ rfl
  have HW:=hhh (fun A B C=>((((T2.o A B C).aP (w1.heap.size + 1 + 1 + 1) (by rw [Own.aY,Json.size_alloc,Json.size_alloc,Json.size_alloc]) 224 [.int .i64 (s.held.length:Int),.int .i64 0]).drew).perm (.refl _)
   (Own.aE _ (Own.row (w1.heap.size + 1 + 1 + 1) 224 [.int .i64 (s.held.length:Int),.int .i64 0] :: ([Own.row ob 224 (aN (L ++ [⟨c.place,c.parts + 1⟩]) ++ spare)] ++ ((Own.row b 168 (s.cells (.slice ha s.held.length hc2) (.slice (some ⟨ob,0,none⟩) (N + 1) (N + 1 + m)))) :: hh))) fun x=>by simp only [List.count_append,List.count_cons,List.count_nil];omega)))
  go_wp2_with (fail);go_region_law (refine Own.cC rfl _ _ 166 rfl 224 i0 (.agg #[.int .i64 0,.int .i64 0]) 2 16 underlying166 Hi.o.1 Hi.o.2.1 Hi.o.2.2.1 Hi.o.2.2.2 rfl (.slice (some ⟨ob,0,none⟩) (N + 1) (N + 1 + m)) (N + 1) (aN (L ++ [⟨c.place,c.parts + 1⟩])) [Own.row ob 224 (aN (L ++ [⟨c.place,c.parts + 1⟩]) ++ spare)] _ rfl HSl.o (w1.heap.size + 1 + 1 + 1) _ (HW.o _ _ _).has rfl rfl ?hy ?c1 ?c2 ?_;(case hy=>(intro u hu;simp only [List.mem_cons,List.not_mem_nil,or_false] at hu;rcases hu with rfl | rfl <;> rfl));(case c1=>(simp only [maxLen];omega));(case c2=>omega);intro ad' c' h' w2 hs' ht';have k3:=ht'.has.cell b _ _ (mcm _ (List.mem_append_right _ mcs)) 3 _ rfl;have kf:=ht'.has.free b _ _ (mcm _ (List.mem_append_right _ mcs)) 3)
  all_goals
   have TB:=hhh (show Own.aA _ (Own.row b 168 (s.cells (.slice ha s.held.length hc2) (.slice ad' (N + 1 + 1) c')) :: (hh ++ h')) w (w2.setCell ⟨b,3,none⟩ (.slice ad' (N + 1 + 1) c')) from
    ((((HW.o _ _ _).trans ht').forget (b:=[_])).perm (.refl _) List.perm_append_comm).put 3 (.slice ad' (N + 1 + 1) c') _ rfl)
   have ID:=hhh (show (Stg.mk s.limit s.held s.size L2 s.e).Is b (Own.row b 168 (s.cells (.slice ha s.held.length hc2) (.slice ad' (N + 1 + 1) c')) :: (hh ++ h')) from
    ⟨.slice ha s.held.length hc2,.slice ad' (N + 1 + 1) c',hh,h',HS1.o,by simp only;rw [HL2.o,lla,Hlen.o,fP];exact hs',rfl⟩)
   have HHo:=hhh (hho.o _ _ _ ID.o TB.o.has ⟨rfl,rfl⟩);clear hs' ht' k3 kf;go_wp2_with (fail);refine HHo.o.mono ?_;rintro e w6 ⟨rfl,h6,i6,t6⟩;have HI6:=hhh i6;have T6:=hhh (TB.o.trans t6);clear i6 t6;go_wp2;go_ret2;rw [HPq.o];exact ⟨_,[],h6,rfl,.bare none rfl,HI6.o,T6.o⟩
theorem xV (hi : s.Is b h) (hw : Own.Has w h) (hf : s.Fits) (v : Part) (hv : Fine v) :
  Calls prog 109 #[.pointer (some ⟨b,0,none⟩),v.val] w (jH (s.step v) b h w):=by
 by_cases h0:s.e=0
 ·rcases List.eq_nil_or_concat s.opened with ho | ⟨L,c,ho⟩
  ·cases hop:Part_opens v with
   | false=>exact aAd hi hw v hv.may h0 ho hop
   | true =>
    cases v with
    | aG m n =>
     have h1:=(hv.count m n rfl).1;have h2:n < 0:=by simpa [Part_opens] using hop
     exact sS hi hw hf h0 m n (by omega) ho
    | _=>cases hop
  ·rw [List.concat_eq_append] at ho
   cases hc:Part_closes v with
   | false=>exact vT hi hw hf h0 L c ho v hv hc
   | true =>
    cases v with
    | close=>exact sL hi hw hf h0 L c ho
    | _=>cases hc
 ·exact zA hi hw v h0
end
end Pip
end
end Go.Proofs.YtcjflgmcjfcodaaGreat
