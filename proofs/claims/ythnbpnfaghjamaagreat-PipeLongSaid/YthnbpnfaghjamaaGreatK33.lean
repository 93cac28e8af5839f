/- Texts of the walk, joined. -/
import Derived.Test.YthnbpnfaghjamaaGreatK32
/- MessagePack's writer: a part that opens, or is plain, in a container. Written by wip/gen_pkt.py. -/
namespace Go.Proofs.YthnbpnfaghjamaaGreat
open Go.RowKit
open Json (Part)
namespace Pip
namespace Pk
theorem setCell_size' (w : World) (a : Addr) (v : Value) : (w.setCell a v).heap.size = w.heap.size := by simp [World.setCell]
set_option maxRecDepth 100000 in
set_option maxHeartbeats 8000000 in
theorem open_top_plain {L : List Crt} {c : Crt} {wb n : Nat} {h : Own.Heap} {w : World} (hi0 : Is (Cw.mk (L ++ [c]) false) wb h) (hw : Own.Has w h) (hf : (Cw.mk (L ++ [c]) false).Fits n) (hn : n ≤ 100000) (p : Part) (hp : Fine p) (hc : p.isClose = false) (hgb : p.isBegin = false) :
  Calls Tryz.prog 191 #[.pointer (some ⟨wb, 0, none⟩), p.val] w fun e w' => e = .returned (.tuple #[.string ⟨((Cw.mk (L ++ [c]) false).pack p).1.toArray⟩, .int .i64 (((Cw.mk (L ++ [c]) false).pack p).2.1 : Int)]) ∧
   ∃ h', Is ((Cw.mk (L ++ [c]) false).pack p).2.2 wb h' ∧ Own.Turn h h' w w' := by
 have hm0 := hp.may
 have a5 := Json.asClose p
 have a6 := Json.asBegin p
 have a3 := Json.asWord p
 obtain ⟨iw, hiw⟩ : ∃ iw, iw = p.isWord := ⟨_, rfl⟩
 obtain ⟨xw, hxw⟩ : ∃ xw, xw = p.inWord := ⟨_, rfl⟩
 rw [← hiw, ← hxw] at a3
 obtain ⟨o, e, ho⟩ : ∃ o e, packPlain p = (o, e) := ⟨_, _, rfl⟩
 have HT := Lib.hid (fun u => plain_any p hp hgb hc u)
 rw [ho] at HT
 have hst := Lib.hid (fun hg => pack_plain (Cw.mk (L ++ [c]) false) p hm0 rfl hc hgb hg)
 rw [ho] at hst
 have hib : p.inBegin = .agg #[.bool false, .int .i64 0] := by cases p <;> first | rfl | cases hgb
 rw [hgb, hib] at a6
 have hbad := Lib.hid (pack_bad (Cw.mk (L ++ [c]) false) p hm0 rfl hc)
 have hmay := Lib.hid (show (Cw.mk (L ++ [c]) false).may p = if c.full = true then 14 else if c.pairs = true ∧ c.between = false ∧ iw = false then 8 else 0 by unfold Cw.may; simp [hiw])
 obtain ⟨V, hV⟩ : ∃ V, V = p.val := ⟨_, rfl⟩
 obtain ⟨pa, pb, pm, ps, pc, hpl⟩ := Json.plain_out p V hV w
 rw [← hV] at a3 a5 a6 HT ⊢
 clear hV
 rw [hm0] at hpl
 have HC := Lib.hid hpl
 clear hpl
 have h5 : p.inClose = .agg #[] := rfl
 rw [hc, h5] at a5
 have hI := Lib.hid hi0
 have hW := Lib.hid hw
 obtain ⟨b2, m, spare, rfl, hsl, hm⟩ := hi0.last L c rfl
 obtain ⟨N, hN⟩ : ∃ N, N = L.length := ⟨_, rfl⟩
 have hN1 : N < 100000 := by have := hf.deep; simp at this; omega
 have hcp : c.parts ≤ 100000 := by have := hf.parts c (by simp); omega
 rw [← hN] at hI hW hm ⊢
 simp only at hI hW ⊢
 have HU := Lib.hid (fun u => full_any c.pairs c.count c.parts (by omega) u)
 have HBt := Lib.hid (fun u => between_any c.pairs c.count c.parts u)
 have hne : ¬ wb = b2 := fun e => by
  have := hw.once
  rw [e] at this
  simp [Own.blocks, Own.row] at this
 have hne' : ¬ b2 = wb := fun e => hne e.symm
 have CF := Lib.hid (fun (u : World) (t : Own.Turn [Own.row wb 83 [.slice (some ⟨b2, 0, none⟩) (N + 1) (N + 1 + m), .bool false], Own.row b2 248 (crts L ++ ([.bool c.pairs, .int .i64 c.count, .int .i64 (c.parts : Int)] ++ spare))] [Own.row wb 83 [.slice (some ⟨b2, 0, none⟩) (N + 1) (N + 1 + m), .bool false], Own.row b2 248 (crts L ++ ([.bool c.pairs, .int .i64 c.count, .int .i64 (c.parts : Int)] ++ spare))] w u) => by
  have c0 := t.has.cell wb _ _ (List.mem_cons_self ..) 0 _ rfl
  have c1 := t.has.cell wb _ _ (List.mem_cons_self ..) 1 _ rfl
  have f0 := t.has.free wb _ _ (List.mem_cons_self ..) 0
  have f1 := t.has.free wb _ _ (List.mem_cons_self ..) 1
  have e0 := t.has.cell b2 _ _ (List.mem_cons_of_mem _ (List.mem_cons_self ..)) (N * 3) (.bool c.pairs) (by rw [hN, ← crts_length, List.getElem?_append_right (by omega)]; simp)
  have e1 := t.has.cell b2 _ _ (List.mem_cons_of_mem _ (List.mem_cons_self ..)) (N * 3 + 1) (.int .i64 c.count) (by rw [hN, ← crts_length, List.getElem?_append_right (by omega)]; simp)
  have e2 := t.has.cell b2 _ _ (List.mem_cons_of_mem _ (List.mem_cons_self ..)) (N * 3 + 2) (.int .i64 (c.parts : Int)) (by rw [hN, ← crts_length, List.getElem?_append_right (by omega)]; simp)
  have f2 := t.has.free b2 _ _ (List.mem_cons_of_mem _ (List.mem_cons_self ..)) (N * 3 + 2)
  exact And.intro c0 (And.intro c1 (And.intro f0 (And.intro f1 (And.intro e0 (And.intro e1 (And.intro e2 f2)))))))
 have HF := Lib.hid (fun (A : Own.Heap) (u : World) (t : Own.Turn [Own.row wb 83 [.slice (some ⟨b2, 0, none⟩) (N + 1) (N + 1 + m), .bool false], Own.row b2 248 (crts L ++ ([.bool c.pairs, .int .i64 c.count, .int .i64 (c.parts : Int)] ++ spare))] (A ++ [Own.row wb 83 [.slice (some ⟨b2, 0, none⟩) (N + 1) (N + 1 + m), .bool false], Own.row b2 248 (crts L ++ ([.bool c.pairs, .int .i64 c.count, .int .i64 (c.parts : Int)] ++ spare))]) w u) => (show Own.Turn [Own.row wb 83 [.slice (some ⟨b2, 0, none⟩) (N + 1) (N + 1 + m), .bool false], Own.row b2 248 (crts L ++ ([.bool c.pairs, .int .i64 c.count, .int .i64 (c.parts : Int)] ++ spare))] (A ++ [Own.row wb 83 [.slice (some ⟨b2, 0, none⟩) (N + 1) (N + 1 + m), .bool false], Own.row b2 248 (crts (L ++ [⟨c.pairs, c.count, c.parts + 1⟩]) ++ spare)]) w (u.setCell ⟨b2, N * 3 + 2, none⟩ (.int .i64 ((c.parts : Int) + 1))) by
  have t' := Own.Turn.setAt (A ++ [Own.row wb 83 [.slice (some ⟨b2, 0, none⟩) (N + 1) (N + 1 + m), .bool false]]) (C := []) (by rw [List.append_assoc]; exact t) (N * 3 + 2) (.int .i64 ((c.parts : Int) + 1)) (by rw [hN]; simp [crts_length])
  have hset : (crts L ++ ([Value.bool c.pairs, .int .i64 c.count, .int .i64 (c.parts : Int)] ++ spare)).set (N * 3 + 2) (.int .i64 ((c.parts : Int) + 1)) = crts (L ++ [⟨c.pairs, c.count, c.parts + 1⟩]) ++ spare := by
   rw [hN, ← crts_length, List.set_append_right _ _ (by omega), crts_append]
   simp [crts]
  rw [hset, List.append_assoc] at t'
  exact t'))
 have hbu := Lib.hid (show (Cw.mk (L ++ [c]) false).bumped = L ++ [⟨c.pairs, c.count, c.parts + 1⟩] by unfold Cw.bumped; simp)
 have HS := Lib.hid (show Own.Slk 3 248 (N + 1) (crts (L ++ [⟨c.pairs, c.count, c.parts + 1⟩])) (.slice (some ⟨b2, 0, none⟩) (N + 1) (N + 1 + m)) [Own.row b2 248 (crts (L ++ [⟨c.pairs, c.count, c.parts + 1⟩]) ++ spare)] from
  .row b2 m spare (by rw [crts_length]; simp [hN]) hsl (by omega))
 have HN := Lib.hid hN
 have hk1 : ((N : Int) + 1) - 1 = (N : Int) := by omega
 have hkw : IntKind.i64.wrap ((c.parts : Int) + 1) = (c.parts : Int) + 1 := by rw [IntKind.wrap_i64]; omega
 clear hN hw hi0 hf hm hsl hp hm0 hc h5 ho hxw hiw hib hgb
 obtain ⟨y, q, k⟩ := c
 simp only at *
 generalize (Crt.mk y q k).full = ft at hmay HU
 generalize (Crt.mk y q k).between = bt at hmay HBt
 by_cases he : e = 0
 ·subst he
  go_enter Tryz.func191, Tryz.ntmps191
  go_wp2_with (fail)
  refine HC.out.mono ?_
  rintro e W1 ⟨rfl, b1⟩
  have T1 := Lib.hid (Own.Turn.of_below hW.out b1)
  have c1 := fun o => (CF.out _ (T1.out.litter o)).2.1
  have c0 := fun o => (CF.out _ (T1.out.litter o)).1
  have c0' := fun o o' => (CF.out _ ((T1.out.litter o).litter o')).1
  have e0 := fun o o' => (CF.out _ ((T1.out.litter o).litter o')).2.2.2.2.1
  have e1 := fun o o' => (CF.out _ ((T1.out.litter o).litter o')).2.2.2.2.2.1
  have e2 := fun o o' => (CF.out _ ((T1.out.litter o).litter o')).2.2.2.2.2.2.1
  have T3 := Lib.hid (fun o o' => ((T1.out.litter o).litter o').allocRow (W1.heap.size + 1 + 1) (by rw [Json.size_alloc, Json.size_alloc]) 248 [.bool y, .int .i64 q, .int .i64 (k : Int)])
  clear b1
  go_upto_if 75 with (fail)
  go_cut [8, 11, 12, 13] (fun s8 _ _ _ wx => (Cw.mk (L ++ [⟨y, q, k⟩]) false).may p = 0 ∧ s8 = .int .i64 (N : Int) ∧ Own.Turn [Own.row wb 83 [.slice (some ⟨b2, 0, none⟩) (N + 1) (N + 1 + m), .bool false], Own.row b2 248 (crts L ++ ([.bool y, .int .i64 q, .int .i64 (k : Int)] ++ spare))] [Own.row wb 83 [.slice (some ⟨b2, 0, none⟩) (N + 1) (N + 1 + m), .bool false], Own.row b2 248 (crts L ++ ([.bool y, .int .i64 q, .int .i64 (k : Int)] ++ spare))] w wx)
  case first =>
   go_wp2_with (fail)
   refine (HU.out _).mono ?_
   rintro e W2 ⟨rfl, b3⟩
   have t3 := (T3.out _ _).trans (Own.Turn.of_below (T3.out _ _).has b3)
   have x0 := t3.has.cell _ _ _ (List.mem_cons_self ..) 0 _ rfl
   have x1 := t3.has.cell _ _ _ (List.mem_cons_self ..) 1 _ rfl
   have x2 := t3.has.cell _ _ _ (List.mem_cons_self ..) 2 _ rfl
   clear c0 c1 c0' e0 e1 e2 b3
   cases ft
   ·cases y
    ·have hg := Lib.hid (show (Cw.mk (L ++ [⟨false, q, k⟩]) false).may p = 0 by rw [hmay.out]; rfl)
     go_wp2_with (fail)
     go_meet
     case rel => exact ⟨hg.out, rfl, t3.forget (b := [_])⟩
    ·go_wp2_with (fail)
     refine (HBt.out _).mono ?_
     rintro e W3 ⟨rfl, b4⟩
     have t4 := (t3.trans (Own.Turn.of_below t3.has b4)).forget (b := [_])
     clear t3 x0 x1 x2 b4
     cases bt
     ·cases iw
      ·have Hbb := Lib.hid (And.intro (hbad.out (by rw [hmay.out]; simp)) (show (Cw.mk (L ++ [⟨true, q, k⟩]) false).may p = 8 by rw [hmay.out]; simp))
       go_wp2_with (fail)
       go_ret2
       rw [Hbb.out.1, Hbb.out.2]
       exact ⟨rfl, _, hI.out, t4⟩
      ·have hg := Lib.hid (show (Cw.mk (L ++ [⟨true, q, k⟩]) false).may p = 0 by rw [hmay.out]; simp)
       go_wp2_with (fail)
       go_meet
       case rel => exact ⟨hg.out, rfl, t4⟩
     ·have hg := Lib.hid (show (Cw.mk (L ++ [⟨true, q, k⟩]) false).may p = 0 by rw [hmay.out]; simp)
      go_wp2_with (fail)
      go_meet
      case rel => exact ⟨hg.out, rfl, t4⟩
   ·have Hbb := Lib.hid (And.intro (hbad.out (by rw [hmay.out]; simp)) (show (Cw.mk (L ++ [⟨y, q, k⟩]) false).may p = 14 by rw [hmay.out]; simp))
    go_wp2_with (fail)
    go_ret2
    rw [Hbb.out.1, Hbb.out.2]
    exact ⟨rfl, _, hI.out, t3.forget (b := [_])⟩
  case rest =>
   obtain ⟨hmay0, rfl, t2⟩ := hcut
   have HMay := Lib.hid hmay0
   have T2 := Lib.hid t2
   clear hmay0 c0 c1 c0' e0 e1 e2 t2
   go_wp2_with (fail)
   refine (HT.out _).mono ?_
   rintro e W2 ⟨rfl, b2⟩
   have t5 := Lib.hid (fun o => (T2.out.trans (Own.Turn.of_below T2.out.has b2)).litter o)
   have c0 := fun o => (CF.out _ (t5.out o)).1
   have g1 := fun o => (CF.out _ (t5.out o)).2.1
   have g2 := fun o => (CF.out _ (t5.out o)).2.2.2.1
   have g3 := fun o => (CF.out _ (t5.out o)).2.2.2.2.2.2.1
   have g4 := fun o => (CF.out _ (t5.out o)).2.2.2.2.2.2.2
   clear b2
   go_wp2
   go_ret2
   rw [hst.out HMay.out, if_neg (by simp)]
   have t6 := fun o => (HF.out [] _ (t5.out o)).set 1 (.bool false) (by simp)
   refine ⟨rfl, _, ?_, t6 _⟩
   rw [hbu.out]
   exact ⟨.slice (some ⟨b2, 0, none⟩) (N + 1) (N + 1 + m), [Own.row b2 248 (crts (L ++ [⟨y, q, k + 1⟩]) ++ spare)], by simp, by simp only [List.length_append, List.length_singleton, ← HN.out]; exact HS.out⟩
 ·have hb : (((e : Nat) : Int) != 0) = true := by simpa using he
  have He := Lib.hid he
  clear he
  go_enter Tryz.func191, Tryz.ntmps191
  go_wp2_with (fail)
  refine HC.out.mono ?_
  rintro e W1 ⟨rfl, b1⟩
  have T1 := Lib.hid (Own.Turn.of_below hW.out b1)
  have c1 := fun o => (CF.out _ (T1.out.litter o)).2.1
  have c0 := fun o => (CF.out _ (T1.out.litter o)).1
  have c0' := fun o o' => (CF.out _ ((T1.out.litter o).litter o')).1
  have e0 := fun o o' => (CF.out _ ((T1.out.litter o).litter o')).2.2.2.2.1
  have e1 := fun o o' => (CF.out _ ((T1.out.litter o).litter o')).2.2.2.2.2.1
  have e2 := fun o o' => (CF.out _ ((T1.out.litter o).litter o')).2.2.2.2.2.2.1
  have T3 := Lib.hid (fun o o' => ((T1.out.litter o).litter o').allocRow (W1.heap.size + 1 + 1) (by rw [Json.size_alloc, Json.size_alloc]) 248 [.bool y, .int .i64 q, .int .i64 (k : Int)])
  clear b1
  go_upto_if 75 with (fail)
  go_cut [8, 11, 12, 13] (fun s8 _ _ _ wx => (Cw.mk (L ++ [⟨y, q, k⟩]) false).may p = 0 ∧ s8 = .int .i64 (N : Int) ∧ Own.Turn [Own.row wb 83 [.slice (some ⟨b2, 0, none⟩) (N + 1) (N + 1 + m), .bool false], Own.row b2 248 (crts L ++ ([.bool y, .int .i64 q, .int .i64 (k : Int)] ++ spare))] [Own.row wb 83 [.slice (some ⟨b2, 0, none⟩) (N + 1) (N + 1 + m), .bool false], Own.row b2 248 (crts L ++ ([.bool y, .int .i64 q, .int .i64 (k : Int)] ++ spare))] w wx)
  case first =>
   go_wp2_with (fail)
   refine (HU.out _).mono ?_
   rintro e W2 ⟨rfl, b3⟩
   have t3 := (T3.out _ _).trans (Own.Turn.of_below (T3.out _ _).has b3)
   have x0 := t3.has.cell _ _ _ (List.mem_cons_self ..) 0 _ rfl
   have x1 := t3.has.cell _ _ _ (List.mem_cons_self ..) 1 _ rfl
   have x2 := t3.has.cell _ _ _ (List.mem_cons_self ..) 2 _ rfl
   clear c0 c1 c0' e0 e1 e2 b3
   cases ft
   ·cases y
    ·have hg := Lib.hid (show (Cw.mk (L ++ [⟨false, q, k⟩]) false).may p = 0 by rw [hmay.out]; rfl)
     go_wp2_with (fail)
     go_meet
     case rel => exact ⟨hg.out, rfl, t3.forget (b := [_])⟩
    ·go_wp2_with (fail)
     refine (HBt.out _).mono ?_
     rintro e W3 ⟨rfl, b4⟩
     have t4 := (t3.trans (Own.Turn.of_below t3.has b4)).forget (b := [_])
     clear t3 x0 x1 x2 b4
     cases bt
     ·cases iw
      ·have Hbb := Lib.hid (And.intro (hbad.out (by rw [hmay.out]; simp)) (show (Cw.mk (L ++ [⟨true, q, k⟩]) false).may p = 8 by rw [hmay.out]; simp))
       go_wp2_with (fail)
       go_ret2
       rw [Hbb.out.1, Hbb.out.2]
       exact ⟨rfl, _, hI.out, t4⟩
      ·have hg := Lib.hid (show (Cw.mk (L ++ [⟨true, q, k⟩]) false).may p = 0 by rw [hmay.out]; simp)
       go_wp2_with (fail)
       go_meet
       case rel => exact ⟨hg.out, rfl, t4⟩
     ·have hg := Lib.hid (show (Cw.mk (L ++ [⟨true, q, k⟩]) false).may p = 0 by rw [hmay.out]; simp)
      go_wp2_with (fail)
      go_meet
      case rel => exact ⟨hg.out, rfl, t4⟩
   ·have Hbb := Lib.hid (And.intro (hbad.out (by rw [hmay.out]; simp)) (show (Cw.mk (L ++ [⟨y, q, k⟩]) false).may p = 14 by rw [hmay.out]; simp))
    go_wp2_with (fail)
    go_ret2
    rw [Hbb.out.1, Hbb.out.2]
    exact ⟨rfl, _, hI.out, t3.forget (b := [_])⟩
  case rest =>
   obtain ⟨hmay0, rfl, t2⟩ := hcut
   have HMay := Lib.hid hmay0
   have T2 := Lib.hid t2
   clear hmay0 c0 c1 c0' e0 e1 e2 t2
   go_wp2_with (fail)
   refine (HT.out _).mono ?_
   rintro e W2 ⟨rfl, b2⟩
   have t5 := Lib.hid (fun o => (T2.out.trans (Own.Turn.of_below T2.out.has b2)).litter o)
   clear b2
   go_wp2
   go_ret2
   rw [hst.out HMay.out, if_pos He.out]
   exact ⟨rfl, _, hI.out, t5.out _⟩
set_option maxRecDepth 100000 in
set_option maxHeartbeats 8000000 in
theorem open_top_begin {L : List Crt} {c : Crt} {wb n : Nat} {h : Own.Heap} {w : World} (hi0 : Is (Cw.mk (L ++ [c]) false) wb h) (hw : Own.Has w h) (hf : (Cw.mk (L ++ [c]) false).Fits n) (hn : n ≤ 100000) (m2 : Bool) (q2 : Int) (hp : Fine (.begins m2 q2)) :
  Calls Tryz.prog 191 #[.pointer (some ⟨wb, 0, none⟩), (Part.begins m2 q2).val] w fun e w' => e = .returned (.tuple #[.string ⟨((Cw.mk (L ++ [c]) false).pack (.begins m2 q2)).1.toArray⟩, .int .i64 (((Cw.mk (L ++ [c]) false).pack (.begins m2 q2)).2.1 : Int)]) ∧
   ∃ h', Is ((Cw.mk (L ++ [c]) false).pack (.begins m2 q2)).2.2 wb h' ∧ Own.Turn h h' w w' := by
 have hm0 := hp.may
 have hc : (Part.begins m2 q2).isClose = false := rfl
 have hq := hp.count m2 q2 rfl
 have a5 := Json.asClose (.begins m2 q2)
 have a6 := Json.asBegin (.begins m2 q2)
 have a3 := Json.asWord (.begins m2 q2)
 obtain ⟨iw, hiw⟩ : ∃ iw, iw = (Part.begins m2 q2).isWord := ⟨_, rfl⟩
 obtain ⟨xw, hxw⟩ : ∃ xw, xw = (Part.begins m2 q2).inWord := ⟨_, rfl⟩
 rw [← hiw, ← hxw] at a3
 obtain ⟨o, e, ho⟩ : ∃ o e, packBegin m2 q2 = (o, e) := ⟨_, _, rfl⟩
 have HT := Lib.hid (fun u => plain_begin m2 q2 u)
 have HB := Lib.hid (fun u => begin_any m2 q2 (by omega) u)
 rw [ho] at HB
 have hst := Lib.hid (fun hg => pack_begin (Cw.mk (L ++ [c]) false) m2 q2 hm0 rfl hg)
 rw [ho] at hst
 rw [show (Part.begins m2 q2).isBegin = true from rfl, show (Part.begins m2 q2).inBegin = .agg #[.bool m2, .int .i64 q2] from rfl] at a6
 have hbad := Lib.hid (pack_bad (Cw.mk (L ++ [c]) false) (.begins m2 q2) hm0 rfl hc)
 have hmay := Lib.hid (show (Cw.mk (L ++ [c]) false).may (.begins m2 q2) = if c.full = true then 14 else if c.pairs = true ∧ c.between = false ∧ iw = false then 8 else 0 by unfold Cw.may; simp [hiw])
 obtain ⟨V, hV⟩ : ∃ V, V = (Part.begins m2 q2).val := ⟨_, rfl⟩
 obtain ⟨pa, pb, pm, ps, pc, hpl⟩ := Json.plain_out (.begins m2 q2) V hV w
 rw [← hV] at a3 a5 a6 HT ⊢
 clear hV
 rw [hm0] at hpl
 have HC := Lib.hid hpl
 clear hpl
 have h5 : (Part.begins m2 q2).inClose = .agg #[] := rfl
 rw [hc, h5] at a5
 have hI := Lib.hid hi0
 have hW := Lib.hid hw
 obtain ⟨b2, m, spare, rfl, hsl, hm⟩ := hi0.last L c rfl
 obtain ⟨N, hN⟩ : ∃ N, N = L.length := ⟨_, rfl⟩
 have hN1 : N < 100000 := by have := hf.deep; simp at this; omega
 have hcp : c.parts ≤ 100000 := by have := hf.parts c (by simp); omega
 rw [← hN] at hI hW hm ⊢
 simp only at hI hW ⊢
 have HU := Lib.hid (fun u => full_any c.pairs c.count c.parts (by omega) u)
 have HBt := Lib.hid (fun u => between_any c.pairs c.count c.parts u)
 have hne : ¬ wb = b2 := fun e => by
  have := hw.once
  rw [e] at this
  simp [Own.blocks, Own.row] at this
 have hne' : ¬ b2 = wb := fun e => hne e.symm
 have CF := Lib.hid (fun (u : World) (t : Own.Turn [Own.row wb 83 [.slice (some ⟨b2, 0, none⟩) (N + 1) (N + 1 + m), .bool false], Own.row b2 248 (crts L ++ ([.bool c.pairs, .int .i64 c.count, .int .i64 (c.parts : Int)] ++ spare))] [Own.row wb 83 [.slice (some ⟨b2, 0, none⟩) (N + 1) (N + 1 + m), .bool false], Own.row b2 248 (crts L ++ ([.bool c.pairs, .int .i64 c.count, .int .i64 (c.parts : Int)] ++ spare))] w u) => by
  have c0 := t.has.cell wb _ _ (List.mem_cons_self ..) 0 _ rfl
  have c1 := t.has.cell wb _ _ (List.mem_cons_self ..) 1 _ rfl
  have f0 := t.has.free wb _ _ (List.mem_cons_self ..) 0
  have f1 := t.has.free wb _ _ (List.mem_cons_self ..) 1
  have e0 := t.has.cell b2 _ _ (List.mem_cons_of_mem _ (List.mem_cons_self ..)) (N * 3) (.bool c.pairs) (by rw [hN, ← crts_length, List.getElem?_append_right (by omega)]; simp)
  have e1 := t.has.cell b2 _ _ (List.mem_cons_of_mem _ (List.mem_cons_self ..)) (N * 3 + 1) (.int .i64 c.count) (by rw [hN, ← crts_length, List.getElem?_append_right (by omega)]; simp)
  have e2 := t.has.cell b2 _ _ (List.mem_cons_of_mem _ (List.mem_cons_self ..)) (N * 3 + 2) (.int .i64 (c.parts : Int)) (by rw [hN, ← crts_length, List.getElem?_append_right (by omega)]; simp)
  have f2 := t.has.free b2 _ _ (List.mem_cons_of_mem _ (List.mem_cons_self ..)) (N * 3 + 2)
  exact And.intro c0 (And.intro c1 (And.intro f0 (And.intro f1 (And.intro e0 (And.intro e1 (And.intro e2 f2)))))))
 have HF := Lib.hid (fun (A : Own.Heap) (u : World) (t : Own.Turn [Own.row wb 83 [.slice (some ⟨b2, 0, none⟩) (N + 1) (N + 1 + m), .bool false], Own.row b2 248 (crts L ++ ([.bool c.pairs, .int .i64 c.count, .int .i64 (c.parts : Int)] ++ spare))] (A ++ [Own.row wb 83 [.slice (some ⟨b2, 0, none⟩) (N + 1) (N + 1 + m), .bool false], Own.row b2 248 (crts L ++ ([.bool c.pairs, .int .i64 c.count, .int .i64 (c.parts : Int)] ++ spare))]) w u) => (show Own.Turn [Own.row wb 83 [.slice (some ⟨b2, 0, none⟩) (N + 1) (N + 1 + m), .bool false], Own.row b2 248 (crts L ++ ([.bool c.pairs, .int .i64 c.count, .int .i64 (c.parts : Int)] ++ spare))] (A ++ [Own.row wb 83 [.slice (some ⟨b2, 0, none⟩) (N + 1) (N + 1 + m), .bool false], Own.row b2 248 (crts (L ++ [⟨c.pairs, c.count, c.parts + 1⟩]) ++ spare)]) w (u.setCell ⟨b2, N * 3 + 2, none⟩ (.int .i64 ((c.parts : Int) + 1))) by
  have t' := Own.Turn.setAt (A ++ [Own.row wb 83 [.slice (some ⟨b2, 0, none⟩) (N + 1) (N + 1 + m), .bool false]]) (C := []) (by rw [List.append_assoc]; exact t) (N * 3 + 2) (.int .i64 ((c.parts : Int) + 1)) (by rw [hN]; simp [crts_length])
  have hset : (crts L ++ ([Value.bool c.pairs, .int .i64 c.count, .int .i64 (c.parts : Int)] ++ spare)).set (N * 3 + 2) (.int .i64 ((c.parts : Int) + 1)) = crts (L ++ [⟨c.pairs, c.count, c.parts + 1⟩]) ++ spare := by
   rw [hN, ← crts_length, List.set_append_right _ _ (by omega), crts_append]
   simp [crts]
  rw [hset, List.append_assoc] at t'
  exact t'))
 have hbu := Lib.hid (show (Cw.mk (L ++ [c]) false).bumped = L ++ [⟨c.pairs, c.count, c.parts + 1⟩] by unfold Cw.bumped; simp)
 have HS := Lib.hid (show Own.Slk 3 248 (N + 1) (crts (L ++ [⟨c.pairs, c.count, c.parts + 1⟩])) (.slice (some ⟨b2, 0, none⟩) (N + 1) (N + 1 + m)) [Own.row b2 248 (crts (L ++ [⟨c.pairs, c.count, c.parts + 1⟩]) ++ spare)] from
  .row b2 m spare (by rw [crts_length]; simp [hN]) hsl (by omega))
 have HN := Lib.hid hN
 have hk1 : ((N : Int) + 1) - 1 = (N : Int) := by omega
 have hkw : IntKind.i64.wrap ((c.parts : Int) + 1) = (c.parts : Int) + 1 := by rw [IntKind.wrap_i64]; omega
 clear hN hw hi0 hf hm hsl hp hm0 hc h5 ho hxw hiw
 obtain ⟨y, q, k⟩ := c
 simp only at *
 generalize (Crt.mk y q k).full = ft at hmay HU
 generalize (Crt.mk y q k).between = bt at hmay HBt
 by_cases he : e = 0
 ·subst he
  go_enter Tryz.func191, Tryz.ntmps191
  go_wp2_with (fail)
  refine HC.out.mono ?_
  rintro e W1 ⟨rfl, b1⟩
  have T1 := Lib.hid (Own.Turn.of_below hW.out b1)
  have c1 := fun o => (CF.out _ (T1.out.litter o)).2.1
  have c0 := fun o => (CF.out _ (T1.out.litter o)).1
  have c0' := fun o o' => (CF.out _ ((T1.out.litter o).litter o')).1
  have e0 := fun o o' => (CF.out _ ((T1.out.litter o).litter o')).2.2.2.2.1
  have e1 := fun o o' => (CF.out _ ((T1.out.litter o).litter o')).2.2.2.2.2.1
  have e2 := fun o o' => (CF.out _ ((T1.out.litter o).litter o')).2.2.2.2.2.2.1
  have T3 := Lib.hid (fun o o' => ((T1.out.litter o).litter o').allocRow (W1.heap.size + 1 + 1) (by rw [Json.size_alloc, Json.size_alloc]) 248 [.bool y, .int .i64 q, .int .i64 (k : Int)])
  clear b1
  go_upto_if 75 with (fail)
  go_cut [8, 11, 12, 13] (fun s8 _ _ _ wx => (Cw.mk (L ++ [⟨y, q, k⟩]) false).may (.begins m2 q2) = 0 ∧ s8 = .int .i64 (N : Int) ∧ Own.Turn [Own.row wb 83 [.slice (some ⟨b2, 0, none⟩) (N + 1) (N + 1 + m), .bool false], Own.row b2 248 (crts L ++ ([.bool y, .int .i64 q, .int .i64 (k : Int)] ++ spare))] [Own.row wb 83 [.slice (some ⟨b2, 0, none⟩) (N + 1) (N + 1 + m), .bool false], Own.row b2 248 (crts L ++ ([.bool y, .int .i64 q, .int .i64 (k : Int)] ++ spare))] w wx)
  case first =>
   go_wp2_with (fail)
   refine (HU.out _).mono ?_
   rintro e W2 ⟨rfl, b3⟩
   have t3 := (T3.out _ _).trans (Own.Turn.of_below (T3.out _ _).has b3)
   have x0 := t3.has.cell _ _ _ (List.mem_cons_self ..) 0 _ rfl
   have x1 := t3.has.cell _ _ _ (List.mem_cons_self ..) 1 _ rfl
   have x2 := t3.has.cell _ _ _ (List.mem_cons_self ..) 2 _ rfl
   clear c0 c1 c0' e0 e1 e2 b3
   cases ft
   ·cases y
    ·have hg := Lib.hid (show (Cw.mk (L ++ [⟨false, q, k⟩]) false).may (.begins m2 q2) = 0 by rw [hmay.out]; rfl)
     go_wp2_with (fail)
     go_meet
     case rel => exact ⟨hg.out, rfl, t3.forget (b := [_])⟩
    ·go_wp2_with (fail)
     refine (HBt.out _).mono ?_
     rintro e W3 ⟨rfl, b4⟩
     have t4 := (t3.trans (Own.Turn.of_below t3.has b4)).forget (b := [_])
     clear t3 x0 x1 x2 b4
     cases bt
     ·cases iw
      ·have Hbb := Lib.hid (And.intro (hbad.out (by rw [hmay.out]; simp)) (show (Cw.mk (L ++ [⟨true, q, k⟩]) false).may (.begins m2 q2) = 8 by rw [hmay.out]; simp))
       go_wp2_with (fail)
       go_ret2
       rw [Hbb.out.1, Hbb.out.2]
       exact ⟨rfl, _, hI.out, t4⟩
      ·have hg := Lib.hid (show (Cw.mk (L ++ [⟨true, q, k⟩]) false).may (.begins m2 q2) = 0 by rw [hmay.out]; simp)
       go_wp2_with (fail)
       go_meet
       case rel => exact ⟨hg.out, rfl, t4⟩
     ·have hg := Lib.hid (show (Cw.mk (L ++ [⟨true, q, k⟩]) false).may (.begins m2 q2) = 0 by rw [hmay.out]; simp)
      go_wp2_with (fail)
      go_meet
      case rel => exact ⟨hg.out, rfl, t4⟩
   ·have Hbb := Lib.hid (And.intro (hbad.out (by rw [hmay.out]; simp)) (show (Cw.mk (L ++ [⟨y, q, k⟩]) false).may (.begins m2 q2) = 14 by rw [hmay.out]; simp))
    go_wp2_with (fail)
    go_ret2
    rw [Hbb.out.1, Hbb.out.2]
    exact ⟨rfl, _, hI.out, t3.forget (b := [_])⟩
  case rest =>
   obtain ⟨hmay0, rfl, t2⟩ := hcut
   have HMay := Lib.hid hmay0
   have T2 := Lib.hid t2
   clear hmay0 c0 c1 c0' e0 e1 e2 t2
   go_wp2_with (fail)
   refine (HT.out _).mono ?_
   rintro e W2 ⟨rfl, b2⟩
   have T3 := Lib.hid ((T2.out.trans (Own.Turn.of_below T2.out.has b2)).allocRow W2.heap.size rfl 151 [.bool m2, .int .i64 q2])
   have g0 := T3.out.has.cell W2.heap.size _ _ (List.mem_cons_self ..) 0 _ rfl
   have g1 := T3.out.has.cell W2.heap.size _ _ (List.mem_cons_self ..) 1 _ rfl
   clear b2
   go_wp2_with (fail)
   refine (HB.out _).mono ?_
   rintro e W3 ⟨rfl, b3⟩
   have T4 := Lib.hid (T3.out.trans (Own.Turn.of_below T3.out.has b3))
   clear b3 g0 g1
   have c0 := T4.out.has.cell wb _ _ (List.mem_cons_of_mem _ (List.mem_cons_self ..)) 0 _ rfl
   have T4' := Lib.hid (T4.out.forget (b := [_]))
   have g3 := (CF.out _ T4'.out).2.2.2.2.2.2.1
   have g4 := (CF.out _ T4'.out).2.2.2.2.2.2.2
   have T5 := Lib.hid (HF.out [_] _ T4.out)
   have T6 := Lib.hid (fun o => T5.out.litter o)
   have s0 := T5.out.has.cell W2.heap.size _ _ (List.mem_cons_self ..) 0 _ rfl
   have s1 := T5.out.has.cell W2.heap.size _ _ (List.mem_cons_self ..) 1 _ rfl
   have s2 := T5.out.has.cell wb _ _ (List.mem_cons_of_mem _ (List.mem_cons_self ..)) 0 _ rfl
   have s0' := fun o => (T6.out o).has.cell W2.heap.size _ _ (List.mem_cons_self ..) 0 _ rfl
   have s1' := fun o => (T6.out o).has.cell W2.heap.size _ _ (List.mem_cons_self ..) 1 _ rfl
   have s2' := fun o => (T6.out o).has.cell wb _ _ (List.mem_cons_of_mem _ (List.mem_cons_self ..)) 0 _ rfl
   have hne2 : ¬ wb = W2.heap.size := fun e => by
    have := T4.out.has.once
    rw [e] at this
    simp [Own.blocks, Own.row] at this
   have hne2' : ¬ W2.heap.size = wb := fun e => hne2 e.symm
   have hA1 : Own.Turn [Own.row wb 83 [.slice (some ⟨b2, 0, none⟩) (N + 1) (N + 1 + m), .bool false], Own.row b2 248 (crts L ++ ([.bool y, .int .i64 q, .int .i64 (k : Int)] ++ spare))] (Own.row W3.heap.size 248 [.bool m2, .int .i64 q2, .int .i64 0] :: Own.row W2.heap.size 151 [.bool m2, .int .i64 q2] :: [Own.row wb 83 [.slice (some ⟨b2, 0, none⟩) (N + 1) (N + 1 + m), .bool false], Own.row b2 248 (crts (L ++ [⟨y, q, k + 1⟩]) ++ spare)]) w
     (((W3.setCell ⟨b2, N * 3 + 2, none⟩ (.int .i64 ((k : Int) + 1))).alloc (.cells #[.bool m2, .int .i64 q2, .int .i64 0] 248)).drew) := Own.Turn.drew (Own.Turn.allocAt T5.out W3.heap.size (by rw [setCell_size']) (.cells #[.bool m2, .int .i64 q2, .int .i64 0] 248))
   have hA2 : Own.Turn [Own.row wb 83 [.slice (some ⟨b2, 0, none⟩) (N + 1) (N + 1 + m), .bool false], Own.row b2 248 (crts L ++ ([.bool y, .int .i64 q, .int .i64 (k : Int)] ++ spare))] (Own.row W3.heap.size 248 [.bool m2, .int .i64 q2, .int .i64 0] :: ([Own.row b2 248 (crts (L ++ [⟨y, q, k + 1⟩]) ++ spare)] ++ [Own.row wb 83 [.slice (some ⟨b2, 0, none⟩) (N + 1) (N + 1 + m), .bool false], Own.row W2.heap.size 151 [.bool m2, .int .i64 q2]])) w
     (((W3.setCell ⟨b2, N * 3 + 2, none⟩ (.int .i64 ((k : Int) + 1))).alloc (.cells #[.bool m2, .int .i64 q2, .int .i64 0] 248)).drew) := hA1.perm (.refl _) (Own.perm_of_count _ _ fun x => by simp only [List.count_append, List.count_cons, List.count_nil]; omega)
   have HW := Lib.hid hA2
   obtain ⟨i0, hi, hz0, hz1, hz2⟩ := info_parts (P := Tryz.prog) (e := 248) (z := .agg #[.bool false, .int .i64 0, .int .i64 0]) (size := 3) (bytes := 24) infoP
   have Hi := Lib.hid (And.intro hi (And.intro hz0 (And.intro hz1 hz2)))
   clear hA1 hA2 hi hz0 hz1 hz2
   go_wp2_with (fail)
   go_region_law (refine Own.step_append_onek rfl _ _ 81 rfl 248 i0 (.agg #[.bool false, .int .i64 0, .int .i64 0]) 3 24 Tryz.underlying81 Hi.out.1 Hi.out.2.1 Hi.out.2.2.1 Hi.out.2.2.2 rfl (.slice (some ⟨b2, 0, none⟩) (N + 1) (N + 1 + m)) (N + 1) (crts (L ++ [⟨y, q, k + 1⟩])) [Own.row b2 248 (crts (L ++ [⟨y, q, k + 1⟩]) ++ spare)] [Own.row wb 83 [.slice (some ⟨b2, 0, none⟩) (N + 1) (N + 1 + m), .bool false], Own.row W2.heap.size 151 [.bool _, .int .i64 q2]] rfl HS.out W3.heap.size _ HW.out.has rfl rfl ?hy ?c1 ?c2 ?_; (case hy => (intro u hu; simp only [List.mem_cons, List.not_mem_nil, or_false] at hu; rcases hu with rfl | rfl | rfl <;> rfl)); (case c1 => (simp only [maxLen]; omega)); (case c2 => omega); intro ad' c' h' w1 hs' ht'; have d0 := ht'.has.cell wb _ _ (List.mem_cons_of_mem _ (List.mem_append_right _ (List.mem_cons_self ..))) 0 _ rfl; have f0' := ht'.has.free wb _ _ (List.mem_cons_of_mem _ (List.mem_append_right _ (List.mem_cons_self ..))) 0; have d15 := ht'.has.cell W2.heap.size _ _ (List.mem_cons_of_mem _ (List.mem_append_right _ (List.mem_cons_of_mem _ (List.mem_cons_self ..)))) 0 _ rfl; have d16 := ht'.has.cell W2.heap.size _ _ (List.mem_cons_of_mem _ (List.mem_append_right _ (List.mem_cons_of_mem _ (List.mem_cons_self ..)))) 1 _ rfl)
   all_goals
    have tB := Lib.hid ((((HW.out).trans ht').forget (b := [_])).perm (.refl _) List.perm_append_comm)
    have tC := (tB.out).set 0 (.slice ad' (N + 1 + 1) c') (by simp)
    have tD := Lib.hid ((tC.perm (.refl _) (List.Perm.cons _ (List.perm_append_comm (l₁ := [_]) (l₂ := h')))).drop (b := _ :: h') (c := [_]))
    have HS2 := Lib.hid hs'
    clear tC hs' ht'
    go_wp2
    go_ret2
    rw [hst.out HMay.out, if_neg (by simp)]
    refine ⟨rfl, _, ⟨.slice ad' (N + 1 + 1) c', h', rfl, ?_⟩, tD.out⟩
    rw [hbu.out]
    simp only [List.length_append, List.length_singleton, ← HN.out]
    rw [crts_append (L ++ [_]) [_]]
    exact HS2.out
 ·have hb : (((e : Nat) : Int) != 0) = true := by simpa using he
  have He := Lib.hid he
  clear he
  go_enter Tryz.func191, Tryz.ntmps191
  go_wp2_with (fail)
  refine HC.out.mono ?_
  rintro e W1 ⟨rfl, b1⟩
  have T1 := Lib.hid (Own.Turn.of_below hW.out b1)
  have c1 := fun o => (CF.out _ (T1.out.litter o)).2.1
  have c0 := fun o => (CF.out _ (T1.out.litter o)).1
  have c0' := fun o o' => (CF.out _ ((T1.out.litter o).litter o')).1
  have e0 := fun o o' => (CF.out _ ((T1.out.litter o).litter o')).2.2.2.2.1
  have e1 := fun o o' => (CF.out _ ((T1.out.litter o).litter o')).2.2.2.2.2.1
  have e2 := fun o o' => (CF.out _ ((T1.out.litter o).litter o')).2.2.2.2.2.2.1
  have T3 := Lib.hid (fun o o' => ((T1.out.litter o).litter o').allocRow (W1.heap.size + 1 + 1) (by rw [Json.size_alloc, Json.size_alloc]) 248 [.bool y, .int .i64 q, .int .i64 (k : Int)])
  clear b1
  go_upto_if 75 with (fail)
  go_cut [8, 11, 12, 13] (fun s8 _ _ _ wx => (Cw.mk (L ++ [⟨y, q, k⟩]) false).may (.begins m2 q2) = 0 ∧ s8 = .int .i64 (N : Int) ∧ Own.Turn [Own.row wb 83 [.slice (some ⟨b2, 0, none⟩) (N + 1) (N + 1 + m), .bool false], Own.row b2 248 (crts L ++ ([.bool y, .int .i64 q, .int .i64 (k : Int)] ++ spare))] [Own.row wb 83 [.slice (some ⟨b2, 0, none⟩) (N + 1) (N + 1 + m), .bool false], Own.row b2 248 (crts L ++ ([.bool y, .int .i64 q, .int .i64 (k : Int)] ++ spare))] w wx)
  case first =>
   go_wp2_with (fail)
   refine (HU.out _).mono ?_
   rintro e W2 ⟨rfl, b3⟩
   have t3 := (T3.out _ _).trans (Own.Turn.of_below (T3.out _ _).has b3)
   have x0 := t3.has.cell _ _ _ (List.mem_cons_self ..) 0 _ rfl
   have x1 := t3.has.cell _ _ _ (List.mem_cons_self ..) 1 _ rfl
   have x2 := t3.has.cell _ _ _ (List.mem_cons_self ..) 2 _ rfl
   clear c0 c1 c0' e0 e1 e2 b3
   cases ft
   ·cases y
    ·have hg := Lib.hid (show (Cw.mk (L ++ [⟨false, q, k⟩]) false).may (.begins m2 q2) = 0 by rw [hmay.out]; rfl)
     go_wp2_with (fail)
     go_meet
     case rel => exact ⟨hg.out, rfl, t3.forget (b := [_])⟩
    ·go_wp2_with (fail)
     refine (HBt.out _).mono ?_
     rintro e W3 ⟨rfl, b4⟩
     have t4 := (t3.trans (Own.Turn.of_below t3.has b4)).forget (b := [_])
     clear t3 x0 x1 x2 b4
     cases bt
     ·cases iw
      ·have Hbb := Lib.hid (And.intro (hbad.out (by rw [hmay.out]; simp)) (show (Cw.mk (L ++ [⟨true, q, k⟩]) false).may (.begins m2 q2) = 8 by rw [hmay.out]; simp))
       go_wp2_with (fail)
       go_ret2
       rw [Hbb.out.1, Hbb.out.2]
       exact ⟨rfl, _, hI.out, t4⟩
      ·have hg := Lib.hid (show (Cw.mk (L ++ [⟨true, q, k⟩]) false).may (.begins m2 q2) = 0 by rw [hmay.out]; simp)
       go_wp2_with (fail)
       go_meet
       case rel => exact ⟨hg.out, rfl, t4⟩
     ·have hg := Lib.hid (show (Cw.mk (L ++ [⟨true, q, k⟩]) false).may (.begins m2 q2) = 0 by rw [hmay.out]; simp)
      go_wp2_with (fail)
      go_meet
      case rel => exact ⟨hg.out, rfl, t4⟩
   ·have Hbb := Lib.hid (And.intro (hbad.out (by rw [hmay.out]; simp)) (show (Cw.mk (L ++ [⟨y, q, k⟩]) false).may (.begins m2 q2) = 14 by rw [hmay.out]; simp))
    go_wp2_with (fail)
    go_ret2
    rw [Hbb.out.1, Hbb.out.2]
    exact ⟨rfl, _, hI.out, t3.forget (b := [_])⟩
  case rest =>
   obtain ⟨hmay0, rfl, t2⟩ := hcut
   have HMay := Lib.hid hmay0
   have T2 := Lib.hid t2
   clear hmay0 c0 c1 c0' e0 e1 e2 t2
   go_wp2_with (fail)
   refine (HT.out _).mono ?_
   rintro e W2 ⟨rfl, b2⟩
   have T3 := Lib.hid ((T2.out.trans (Own.Turn.of_below T2.out.has b2)).allocRow W2.heap.size rfl 151 [.bool m2, .int .i64 q2])
   have g0 := T3.out.has.cell W2.heap.size _ _ (List.mem_cons_self ..) 0 _ rfl
   have g1 := T3.out.has.cell W2.heap.size _ _ (List.mem_cons_self ..) 1 _ rfl
   clear b2
   go_wp2_with (fail)
   refine (HB.out _).mono ?_
   rintro e W3 ⟨rfl, b3⟩
   have T4 := Lib.hid (T3.out.trans (Own.Turn.of_below T3.out.has b3))
   clear b3 g0 g1
   have T5 := Lib.hid (T4.out.forget (b := [_]))
   go_wp2
   go_ret2
   rw [hst.out HMay.out, if_pos He.out]
   exact ⟨rfl, _, hI.out, T5.out⟩
theorem step_any {W : Cw} {wb n : Nat} {h : Own.Heap} {w : World} (hi : Is W wb h) (hw : Own.Has w h) (hf : W.Fits n) (hn : n ≤ 100000) (p : Part) (hp : Fine p) :
  Calls Tryz.prog 191 #[.pointer (some ⟨wb, 0, none⟩), p.val] w fun e w' => e = .returned (.tuple #[.string ⟨(W.pack p).1.toArray⟩, .int .i64 ((W.pack p).2.1 : Int)]) ∧
   ∃ h', Is (W.pack p).2.2 wb h' ∧ Own.Turn h h' w w' := by
 by_cases hd : W.done = true
 ·have hE : W.pack p = ([], 14, W) := by unfold Cw.pack; rw [if_pos (.inr hd)]
  rw [hE]
  refine (step_end hi hw p (.inr hd)).mono ?_
  rintro e w' ⟨rfl, t⟩
  exact ⟨rfl, h, hi, t⟩
 ·have hd' : W.done = false := by simpa using hd
  by_cases hc : p.isClose = true
  ·obtain rfl : p = .close := by cases p <;> first | rfl | cases hc
   have hE : W.pack .close = W.packClose := by unfold Cw.pack; rw [if_neg (by simp [hd', Part.may])]
   rw [hE]
   exact step_close hi hw hf hn hd'
  ·have hc' : p.isClose = false := by simpa using hc
   obtain ⟨l, d⟩ := W
   simp only at hd'
   subst hd'
   rcases List.eq_nil_or_concat l with rfl | ⟨L, c, rfl⟩
   ·by_cases hg : p.isBegin = true
    ·cases p with
     | begins m q => exact open_nil_begin hi hw m q hp
     | _ => cases hg
    ·exact open_nil_plain hi hw p hp hc' (by simpa using hg)
   ·rw [List.concat_eq_append] at *
    by_cases hg : p.isBegin = true
    ·cases p with
     | begins m q => exact open_top_begin hi hw hf hn m q hp
     | _ => cases hg
    ·exact open_top_plain hi hw hf hn p hp hc' (by simpa using hg)
end Pk
end Pip
end Go.Proofs.YthnbpnfaghjamaaGreat
