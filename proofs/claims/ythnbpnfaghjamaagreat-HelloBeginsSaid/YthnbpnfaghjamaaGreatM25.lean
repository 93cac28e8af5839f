/- Texts of the walk, joined: HelB, StgA. -/
import Derived.Test.YthnbpnfaghjamaaGreatM06
import Derived.Test.YthnbpnfaghjamaaGreatM21
import Derived.Test.YthnbpnfaghjamaaGreatM23
import Derived.Test.YthnbpnfaghjamaaGreatM24
import Derived.Deep.RegionLaw
import Derived.Deep.RegionWith
/- hello.No, Trailer, Yes, Full, Put. -/
namespace Go.Proofs.YthnbpnfaghjamaaGreat
open Go.RowKit
namespace Pip

theorem number_cv (e : Int) (w : World) : (convert 47 9 (.slice (some ⟨w.heap.size, 0, none⟩) 1 1)).run Tryz.prog (w.alloc (.cells #[.int .u8 (e % 256)] 5)) = .ok (.string ⟨([UInt8.ofNat (e % 256).toNat] : List UInt8).toArray⟩) (w.alloc (.cells #[.int .u8 (e % 256)] 5)) := by
  have h := hcv_new w w.heap.size rfl [UInt8.ofNat (e % 256).toNat] 1 rfl (by decide)
  have e1 : (u8s [UInt8.ofNat (e % 256).toNat]).toArray = #[.int .u8 (e % 256)] := by
    simp only [u8s, List.map_cons, List.map_nil, UInt8.toNat_ofNat']
    rw [show (((e % 256).toNat % 2 ^ 8 : Nat) : Int) = e % 256 by omega]
  rw [e1] at h
  exact h

set_option maxRecDepth 100000 in
set_option maxHeartbeats 4000000 in
theorem numb_any (e : Int) (w : World) : Calls Tryz.prog 53 #[.int .i64 e] w fun r w' => r = .returned (.string ⟨([UInt8.ofNat (e % 256).toNat] : List UInt8).toArray⟩) ∧ Below w.heap.size w w' := by
  have HB := Lib.hid (fun o => (Below.refl w.heap.size w).alloc (Nat.le_refl _) o)
  have hcv := number_cv e w
  obtain ⟨S, hS⟩ : ∃ S : ByteArray, S = ⟨([UInt8.ofNat (e % 256).toNat] : List UInt8).toArray⟩ := ⟨_, rfl⟩
  rw [← hS] at hcv ⊢
  clear hS
  go_enter Tryz.func53, Tryz.ntmps53
  go_wp2
  go_ret
  exact ⟨rfl, HB.out _⟩

theorem cat_bytes0 (a b : List UInt8) : (⟨a.toArray⟩ : ByteArray) ++ ⟨b.toArray⟩ = ⟨(a ++ b).toArray⟩ := by
  apply ByteArray.ext
  simp

theorem cat_one (a : UInt8) (l : List UInt8) : (⟨#[a]⟩ : ByteArray) ++ ⟨l.toArray⟩ = ⟨(a :: l).toArray⟩ := cat_bytes0 [a] l

set_option maxRecDepth 100000 in
set_option maxHeartbeats 4000000 in
theorem no_any (e : Int) (w : World) : Calls Tryz.prog 32 #[.int .i64 e] w fun r w' => r = .returned (.string ⟨([78, UInt8.ofNat (e % 256).toNat] : List UInt8).toArray⟩) ∧ Below w.heap.size w w' := by
  have HN := Lib.hid (numb_any e w)
  have HC := Lib.hid (cat_one 78 [UInt8.ofNat (e % 256).toNat])
  obtain ⟨S, hS⟩ : ∃ S : ByteArray, S = ⟨([UInt8.ofNat (e % 256).toNat] : List UInt8).toArray⟩ := ⟨_, rfl⟩
  have hz : S.size = 1 := by rw [hS]; rfl
  rw [← hS] at HN HC
  clear hS
  go_enter Tryz.func32, Tryz.ntmps32
  go_wp2_with (fail)
  refine HN.out.mono ?_
  rintro r w1 ⟨rfl, b1⟩
  go_wp2
  go_ret
  exact ⟨by rw [← HC.out]; rfl, b1⟩

set_option maxRecDepth 100000 in
set_option maxHeartbeats 4000000 in
theorem trailer_any (e : Int) (w : World) : Calls Tryz.prog 31 #[.int .i64 e] w fun r w' => r = .returned (.string ⟨([255, UInt8.ofNat (e % 256).toNat] : List UInt8).toArray⟩) ∧ Below w.heap.size w w' := by
  have HN := Lib.hid (numb_any e w)
  have HC := Lib.hid (cat_one 255 [UInt8.ofNat (e % 256).toNat])
  obtain ⟨S, hS⟩ : ∃ S : ByteArray, S = ⟨([UInt8.ofNat (e % 256).toNat] : List UInt8).toArray⟩ := ⟨_, rfl⟩
  have hz : S.size = 1 := by rw [hS]; rfl
  rw [← hS] at HN HC
  clear hS
  go_enter Tryz.func31, Tryz.ntmps31
  go_wp2_with (fail)
  refine HN.out.mono ?_
  rintro r w1 ⟨rfl, b1⟩
  go_wp2
  go_ret
  exact ⟨by rw [← HC.out]; rfl, b1⟩

theorem yes_any (w : World) : Calls Tryz.prog 30 #[] w fun r w' => r = .returned (.string ⟨#[75]⟩) ∧ w = w' := by
  go_enter Tryz.func30, Tryz.ntmps30
  go_wp2
  go_ret
  exact ⟨rfl, rfl⟩

theorem fulls_any (w : World) : Calls Tryz.prog 33 #[] w fun r w' => r = .returned (.string ⟨#[70]⟩) ∧ w = w' := by
  go_enter Tryz.func33, Tryz.ntmps33
  go_wp2
  go_ret
  exact ⟨rfl, rfl⟩
end Pip
end Go.Proofs.YthnbpnfaghjamaaGreat

/- event.Size; stage.Stage: what it holds; New, Held, hold. -/
namespace Go.Proofs.YthnbpnfaghjamaaGreat
open Go.RowKit
open Json (Part)
namespace Pip

theorem sizeOf_text (p : Part) : sizeOf p = 1 + p.evt.text.size := by
  cases p <;> rfl

set_option maxRecDepth 100000 in
set_option maxHeartbeats 4000000 in
theorem size_any (p : Part) (hm : p.may = true) (hs : sizeOf p ≤ 1001) (w : World) :
    Calls Tryz.prog 72 #[p.val] w fun e w' => e = .returned (.int .i64 (sizeOf p : Int)) ∧ Below w.heap.size w w' := by
  have hp := Json.plain_any p w
  unfold Json.plainVal at hp
  rw [hm, if_pos rfl] at hp
  obtain ⟨V, hV⟩ : ∃ V, V = p.val := ⟨_, rfl⟩
  rw [← hV] at hp ⊢
  have hz := sizeOf_text p
  rw [hz] at hs ⊢
  unfold Json.Evt.val Json.Evt.cells at hp
  generalize p.evt = E at hp hs hz ⊢
  obtain ⟨a, y, m, s, c⟩ := E
  simp only at hp hs ⊢
  have HC := Lib.hid hp
  have hsz : wrap64 (1 + (s.size : Int)) = ((1 + s.size : Nat) : Int) := by unfold wrap64; omega
  have hcm : (1 : Int) + (s.size : Int) = ((1 + s.size : Nat) : Int) := by omega
  have Hcm := Lib.hid hcm
  have HB := Lib.hid (fun (W : World) (b : Below w.heap.size w W) (o : Obj) => b.alloc b.size o)
  have hs2 : s.size ≤ 1000 := by omega
  clear hp hV hm hz hs hsz hcm
  go_enter Tryz.func72, Tryz.ntmps72
  go_wp2_with (fail)
  refine HC.out.mono ?_
  rintro e W1 ⟨rfl, b1⟩
  go_wp2
  go_ret
  exact ⟨Own.ret_int Hcm.out, HB.out _ b1 _⟩

def holdCells (l : List Hold) : List Value := l.flatMap fun c => [.int .i64 (c.place : Int), .int .i64 (c.parts : Int)]
theorem holdCells_append (l r : List Hold) : holdCells (l ++ r) = holdCells l ++ holdCells r := by simp [holdCells]
theorem holdCells_length (l : List Hold) : (holdCells l).length = l.length * 2 := by
  induction l with
  | nil => rfl
  | cons c l ih => rw [holdCells, List.flatMap_cons, List.length_append]; rw [holdCells] at ih; rw [ih]; simp; omega

def Stg.cells (s : Stg) (hv ov : Value) : List Value := [.int .i64 (s.limit : Int), hv, .int .i64 (s.size : Int), ov, .int .i64 (s.e : Int)]

/-- The memory of a stage. -/
def Stg.Is (s : Stg) (b : Nat) (h : Own.Heap) : Prop :=
  ∃ hv ov hh ho, Own.Slc 20 (partCells s.held) hv hh ∧ Own.Slk 2 157 s.opened.length (holdCells s.opened) ov ho ∧ h = Own.row b 134 (s.cells hv ov) :: (hh ++ ho)

/-- What its calls do. -/
def StgDoes (o : Stg × List Part × Nat) (b : Nat) (h : Own.Heap) (w : World) (e : Ending) (w' : World) : Prop :=
  ∃ v hv h', e = .returned (.tuple #[v, .int .i64 (o.2.2 : Int)]) ∧ Own.Slc 20 (partCells o.2.1) v hv ∧ o.1.Is b h' ∧ Own.Turn h (hv ++ h') w w'

theorem partCells_length (l : List Part) : (partCells l).length = l.length := List.length_map ..
theorem partCells_append (l r : List Part) : partCells (l ++ r) = partCells l ++ partCells r := List.map_append ..

section
variable {s : Stg} {b : Nat} {h : Own.Heap} {w : World}

theorem Stg.Is.opened_ (hi : s.Is b h) : ∃ ha hc oa oc hh ho, h = Own.row b 134 (s.cells (.slice ha s.held.length hc) (.slice oa s.opened.length oc)) :: (hh ++ ho) ∧
    Own.Slc 20 (partCells s.held) (.slice ha s.held.length hc) hh ∧ Own.Slk 2 157 s.opened.length (holdCells s.opened) (.slice oa s.opened.length oc) ho := by
  obtain ⟨hv, ov, hh, ho, h1, h2, rfl⟩ := hi
  obtain ⟨ha, hc, rfl⟩ := h1.len
  obtain ⟨oa, oc, rfl⟩ := h2.len
  rw [partCells_length] at h1 ⊢
  exact ⟨ha, hc, oa, oc, hh, ho, rfl, h1, h2⟩

set_option maxRecDepth 100000 in
set_option maxHeartbeats 4000000 in
theorem stgheld_any (hi : s.Is b h) (hw : Own.Has w h) :
    Calls Tryz.prog 54 #[.pointer (some ⟨b, 0, none⟩)] w fun e w' => e = .returned (.int .i64 (s.size : Int)) ∧ w = w' := by
  obtain ⟨ha, hc, oa, oc, hh, ho, rfl, h1, h2⟩ := hi.opened_
  have c2 := hw.cell b _ _ (List.mem_cons_self ..) 2 _ rfl
  clear hi hw h1 h2
  go_enter Tryz.func54, Tryz.ntmps54
  go_wp2
  go_ret
  exact ⟨rfl, rfl⟩

set_option maxRecDepth 100000 in
set_option maxHeartbeats 4000000 in
theorem stgnew_any (n : Nat) (hn : n ≤ 2000) (w : World) :
    Calls Tryz.prog 39 #[.int .i64 (n : Int)] w fun e w' => ∃ b h, e = .returned (.pointer (some ⟨b, 0, none⟩)) ∧ (Stg.new n).Is b h ∧ Own.Turn [] h w w' := by
  have hI := Lib.hid (show (Stg.new n).Is w.heap.size (Own.row w.heap.size 134 ((Stg.new n).cells (.slice none 0 0) (.slice none 0 0)) :: []) from ⟨_, _, [], [], .bare none rfl, .bare none rfl rfl, rfl⟩)
  have hT := Lib.hid ((Own.Turn.refl (Own.Has.nil w)).allocRow w.heap.size rfl 134 ((Stg.new n).cells (.slice none 0 0) (.slice none 0 0)))
  have l1 : max (n : Int) 0 = (n : Int) := by omega
  have l2 : min (n : Int) 2000 = (n : Int) := by omega
  have l3 : (if (n : Int) < 0 then (0 : Int) else (n : Int)) = (n : Int) := by rw [if_neg (by omega)]
  have l4 : (if (2000 : Int) < (n : Int) then (2000 : Int) else (n : Int)) = (n : Int) := by rw [if_neg (by omega)]
  have l5 : ¬ (n : Int) < 0 := by omega
  have l6 : ¬ (2000 : Int) < (n : Int) := by omega
  clear hn
  go_enter Tryz.func39, Tryz.ntmps39
  go_wp2
  go_ret
  exact ⟨_, rfl, _, hI.out, hT.out⟩

set_option maxRecDepth 100000 in
set_option maxHeartbeats 8000000 in
theorem hold_any (hi : s.Is b h) (hw : Own.Has w h) (v : Part) (hm : v.may = true) (hs : sizeOf v ≤ 1001) (h2 : s.size ≤ 2000) (h3 : s.held.length ≤ 2000) :
    Calls Tryz.prog 67 #[.pointer (some ⟨b, 0, none⟩), v.val] w fun e w' => e = .returned (.int .i64 ((s.hold v).2 : Int)) ∧ ∃ h', (s.hold v).1.Is b h' ∧ Own.Turn h h' w w' := by
  obtain ⟨i0, hi0, e0⟩ := Option.map_eq_some_iff.1 infoAny
  simp only [Prod.mk.injEq] at e0
  obtain ⟨hz, hsz, hby⟩ := e0
  have Hi := Lib.hid (And.intro hi0 (And.intro hz (And.intro hsz hby)))
  have HSz := Lib.hid (fun u => size_any v hm hs u)
  have HP0 : s.hold v = if s.limit < s.size + sizeOf v then (⟨0, [], 0, [], 10⟩, 10) else (⟨s.limit, s.held ++ [v], s.size + sizeOf v, s.opened, s.e⟩, s.e) := rfl
  generalize s.hold v = O at HP0 ⊢
  obtain ⟨ha, hc, oa, oc, hh, ho, rfl, g1, g2⟩ := hi.opened_
  have c1 := hw.cell b _ _ (List.mem_cons_self ..) 1 _ rfl
  have HS := Lib.hid g1
  have HK := Lib.hid g2
  have HMl := Lib.hid (partCells_length s.held)
  have HW := Lib.hid (show Own.Has w (hh ++ (Own.row b 134 (s.cells (.slice ha s.held.length hc) (.slice oa s.opened.length oc)) :: ho)) from hw.perm (Own.perm_of_count _ _ fun x => by simp only [List.count_append, List.count_cons]; omega))
  have Hpm := Lib.hid (fun hh' : Own.Heap => (show (hh' ++ (Own.row b 134 (s.cells (.slice ha s.held.length hc) (.slice oa s.opened.length oc)) :: ho)).Perm (Own.row b 134 (s.cells (.slice ha s.held.length hc) (.slice oa s.opened.length oc)) :: (hh' ++ ho)) from
    Own.perm_of_count _ _ fun x => by simp only [List.count_append, List.count_cons]; omega))
  obtain ⟨Z, hZ⟩ : ∃ Z, Z = sizeOf v := ⟨_, rfl⟩
  rw [← hZ] at HSz HP0 hs
  obtain ⟨Q, hQ⟩ : ∃ Q, Q = s.size + Z := ⟨_, rfl⟩
  rw [← hQ] at HP0
  have hQw : wrap64 ((s.size : Int) + (Z : Int)) = (Q : Int) := by unfold wrap64; omega
  have hQe : (s.size : Int) + (Z : Int) = (Q : Int) := by omega
  have hQ3 : IntKind.i64.wrap (Q : Int) = (Q : Int) := by rw [IntKind.wrap_i64]; omega
  have HPh := Lib.hid HP0
  have Hv1 := Lib.hid (fun V (hV : V = v.val) => (show partCells (s.held ++ [v]) = partCells s.held ++ [V] by rw [hV, partCells_append]; rfl))
  clear hi hw g1 g2 hi0 hz hsz hby HP0 hZ hQ hm hs h2
  rcases part_shape v with hY | ⟨T0, y0, hY⟩
  all_goals
    have HY := Lib.hid (Hv1.out _ hY.symm)
    rw [hY] at HSz
    rw [hY]
    clear hY Hv1
    go_enter Tryz.func67, Tryz.ntmps67
    go_wp2_with (at_builtin; go_loud (refine Own.wpList_append_oneAt w.heap.size rfl rfl _ _ 89 rfl 20 i0 .nilIface 16 Tryz.underlying89 Hi.out.1 Hi.out.2.1 Hi.out.2.2.1 Hi.out.2.2.2 rfl (.slice ha s.held.length hc) (partCells s.held) s.held.length HMl.out hh _ rfl HS.out HW.out _ rfl rfl ?c1 ?c2 ?_))
    case c1 => simp only [maxLen]; omega
    case c2 => omega
    intro ad' c' h' w1 hs' ht'
    have S1 := Lib.hid (show Own.Slc 20 (partCells (s.held ++ [v])) (.slice ad' (s.held.length + 1) c') h' by rw [HY.out]; exact hs')
    have T1 := Lib.hid (ht'.perm (Hpm.out hh) (Hpm.out h'))
    have d1 := T1.out.has.cell b _ _ (List.mem_cons_self ..) 1 _ rfl
    have f1 := T1.out.has.free b _ _ (List.mem_cons_self ..) 1
    have T2 := Lib.hid (show Own.Turn (Own.row b 134 (s.cells (.slice ha s.held.length hc) (.slice oa s.opened.length oc)) :: (hh ++ ho)) (Own.row b 134 (s.cells (.slice ad' (s.held.length + 1) c') (.slice oa s.opened.length oc)) :: (h' ++ ho)) w (w1.setCell ⟨b, 1, none⟩ (.slice ad' (s.held.length + 1) c')) from
      T1.out.put 1 _ _ rfl)
    have k2 := T1.out.has.cell b _ _ (List.mem_cons_self ..) 2 _ rfl
    have kf := T1.out.has.free b _ _ (List.mem_cons_self ..) 2
    clear hs' ht' HW HS Hpm c1
    go_wp2_with (fail)
    go_region_with (go_at_call 72; refine (HSz.out _).mono ?_; rintro e W ⟨rfl, bW⟩; have TW := Lib.hid ((T2.out.drewN _).trans (Own.Turn.of_below (T2.out.drewN _).has bW)); have k2 := TW.out.has.cell b _ _ (List.mem_cons_self ..) 2 _ rfl; have kf := TW.out.has.free b _ _ (List.mem_cons_self ..) 2)
    all_goals
      have T3 := Lib.hid (show Own.Turn (Own.row b 134 (s.cells (.slice ha s.held.length hc) (.slice oa s.opened.length oc)) :: (hh ++ ho)) (Own.row b 134 [.int .i64 (s.limit : Int), .slice ad' (s.held.length + 1) c', .int .i64 (Q : Int), .slice oa s.opened.length oc, .int .i64 (s.e : Int)] :: (h' ++ ho)) w (W.setCell ⟨b, 2, none⟩ (.int .i64 (Q : Int))) from
        TW.out.put 2 (.int .i64 (Q : Int)) _ rfl)
      have m0 := TW.out.has.cell b _ _ (List.mem_cons_self ..) 0 _ rfl
      have m1 := TW.out.has.cell b _ _ (List.mem_cons_self ..) 1 _ rfl
      have m3 := TW.out.has.cell b _ _ (List.mem_cons_self ..) 3 _ rfl
      have m4 := TW.out.has.cell b _ _ (List.mem_cons_self ..) 4 _ rfl
      have n0 := TW.out.has.free b _ _ (List.mem_cons_self ..) 0
      have n1 := TW.out.has.free b _ _ (List.mem_cons_self ..) 1
      have n3 := TW.out.has.free b _ _ (List.mem_cons_self ..) 3
      have n4 := TW.out.has.free b _ _ (List.mem_cons_self ..) 4
      by_cases hlt : s.limit < Q
      · have HP := Lib.hid (HPh.out.trans (if_pos hlt))
        have hltI : (s.limit : Int) < (Q : Int) := by omega
        clear HPh hlt
        go_wp2
        go_quiet (fail)
        go_wp2
        go_ret
        refine ⟨by rw [HP.out]; rfl, [Own.row b 134 [.int .i64 0, .slice none 0 0, .int .i64 0, .slice none 0 0, .int .i64 10]], ?_, ?_⟩
        · rw [HP.out]
          exact ⟨_, _, [], [], .bare none rfl, .bare none rfl rfl, rfl⟩
        · exact Own.Turn.drop (b := [_]) (((((((T3.out.drewN _).put 0 (.int .i64 0) _ rfl).put 1 (.slice none 0 0) _ rfl).put 2 (.int .i64 0) _ rfl).put 3 (.slice none 0 0) _ rfl).put 4 (.int .i64 10) _ rfl))
      · have HP := Lib.hid (HPh.out.trans (if_neg hlt))
        have hltI : ¬ (s.limit : Int) < (Q : Int) := by omega
        clear HPh hlt
        go_wp2
        go_quiet (fail)
        go_wp2
        go_ret
        rw [HP.out]
        refine ⟨rfl, _, ⟨.slice ad' (s.held.length + 1) c', .slice oa s.opened.length oc, h', ho, S1.out, HK.out, rfl⟩, T3.out.drewN _⟩
end
end Pip
end Go.Proofs.YthnbpnfaghjamaaGreat
