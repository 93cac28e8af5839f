/- EscapeShort: the walk. -/
import Derived.Test.YtnpbleaikdpjiaaDoorAlive5
import Derived.OpenShut
import Derived.Maps.OwnSet
import Derived.Maps.StringElems
namespace Go.Proofs.YtnpbleaikdpjiaaDoor.escapeShort
open Go.RowKit Go.Maps

theorem law : Keyed Tryd.prog 5 := int_keyed Tryd.underlying5
theorem zeroE (w : World) : (zeroValue 9).run Tryd.prog w = .ok (.string ⟨#[]⟩) w := by kernel_rfl

noncomputable abbrev R : Value → Option (DataW Unit × List MemPlace) := plainElem Tryd.prog 9

theorem ins (w : World) {ops : Array Oper} {rest : List Oper} {o : Oper} {a : Act} {Q : Exit → Act → World → Prop}
    (hg : o.guard = none) (m x v : Operand) (hop : o.op = Op.insert 43 m x v) (b n : Nat) (D : DataW Unit)
    (hm : a.eval m = .map (some b)) (hown : w.ownsMap Tryd.prog 5 R b n D) (hn : n < maxLen) (key val : Value) (kl : Lit) (hx : a.eval x = key) (hv : a.eval v = val) (hkey : keyOf Tryd.prog 5 key = some kl)
    (l : List UInt8) (hval : R val = some (.lit (.string l), []))
    (hK : ∀ w', w'.ownsMap Tryd.prog 5 R b (n + 1) (D.put kl (.lit (.string l))) → w.grownBy w' (some b) → wpList Tryd.prog ops Q rest (a.put o.dst undef) w') :
    wpList Tryd.prog ops Q (o :: rest) a w := by
  refine wpList_plain hg fun K' hK' => ?_
  obtain ⟨w', hrun, r1, r2⟩ := hown.update law Tryd.underlying43 hn hkey hval
  unfold Oper.wp
  simp [execOp, hop, hm, hx, hv, hrun, Result.andThen]
  exact hK' _ _ (hK w' r1 r2)

noncomputable def strOf : DataW Unit → Option (List UInt8)
  | .lit (.string l) => some l
  | _ => none

theorem look_str (w : World) {ops : Array Oper} {rest : List Oper} {o : Oper} {a : Act} {Q : Exit → Act → World → Prop}
    (hg : o.guard = none) (m x : Operand) (hop : o.op = Op.lookup 43 m x true) (b n : Nat) (D : DataW Unit)
    (hm : a.eval m = .map (some b)) (hown : w.ownsMap Tryd.prog 5 R b n D) (key : Value) (kl : Lit) (hx : a.eval x = key) (hkey : keyOf Tryd.prog 5 key = some kl)
    (hK : ∀ s : ByteArray, strOf (D.atKey kl (.lit (.string []))) = some s.data.toList → wpList Tryd.prog ops Q rest (a.put o.dst (.tuple #[.string s, .bool (Maps.has D kl)])) w) :
    wpList Tryd.prog ops Q (o :: rest) a w :=
  wpList_lookup_own_ok w hg m x _ hop _ _ law Tryd.underlying43 R (zeroE w) (.lit (.string [])) [] rfl b n D hm hown key kl hx hkey (fun v ps hv => by
    obtain ⟨s, rfl, hs, _⟩ := plainElem_string_inv Tryd.underlying9 hv
    simp only [Prod.mk.injEq] at hs
    exact hK s (by rw [hs.1]; rfl))

noncomputable def D8 : DataW Unit := (((((((((DataW.map []).put (.int .u8 34) (.lit (.string [34]))).put (.int .u8 92) (.lit (.string [92]))).put (.int .u8 47) (.lit (.string [47]))).put (.int .u8 98) (.lit (.string [8]))).put (.int .u8 102) (.lit (.string [12]))).put (.int .u8 110) (.lit (.string [10]))).put (.int .u8 114) (.lit (.string [13]))).put (.int .u8 116) (.lit (.string [9])))

noncomputable def look (b : UInt8) : Bool :=
  if Maps.has D8 (.int .u8 b.toNat) then (Esc.read [92, b]).2 == 0 && strOf (D8.atKey (.int .u8 b.toNat) (.lit (.string []))) == some (Esc.read [92, b]).1
  else (Esc.read [92, b]).1 == [] && (Esc.read [92, b]).2 == (if b = 117 then 3 else 2)

theorem look_all : ∀ n : Fin 256, look (UInt8.ofNat n.val) = true := by decide +kernel

theorem look_of (b : UInt8) : look b = true := by
  have h1 := look_all ⟨b.toNat, b.toNat_lt⟩
  have e : UInt8.ofNat b.toNat = b := by simp
  rw [e] at h1
  exact h1

theorem has_true {c : UInt8} {q : List UInt8} {n : Nat} (hq : Esc.read [92, c] = (q, n)) (hh : Maps.has D8 (.int .u8 c.toNat) = true) :
    n = 0 ∧ ∀ s : ByteArray, strOf (D8.atKey (.int .u8 c.toNat) (.lit (.string []))) = some s.data.toList → s = ⟨q.toArray⟩ := by
  have h := look_of c
  unfold look at h
  rw [if_pos hh, hq, Bool.and_eq_true, beq_iff_eq, beq_iff_eq] at h
  refine ⟨h.1, fun s hs => ?_⟩
  rw [h.2, Option.some.injEq] at hs
  rw [show q = s.data.toList from hs, Mem.mk_data]

theorem has_false {c : UInt8} {q : List UInt8} {n : Nat} (hq : Esc.read [92, c] = (q, n)) (hh : Maps.has D8 (.int .u8 c.toNat) = false) :
    q = [] ∧ n = (if c = 117 then 3 else 2) := by
  have h := look_of c
  unfold look at h
  rw [if_neg (by rw [hh]; decide), hq, Bool.and_eq_true, beq_iff_eq, beq_iff_eq] at h
  exact h

theorem sizes {w2 w3 w4 w5 w6 w7 w8 w9 w10 u : World} (h : Below u.heap.size u (w2.alloc (.map #[] 0))) (hB : u.heap.size ≤ w2.heap.size)
    (g1 : (w2.alloc (.map #[] 0)).grownBy w3 (some w2.heap.size)) (g2 : w3.grownBy w4 (some w2.heap.size)) (g3 : w4.grownBy w5 (some w2.heap.size)) (g4 : w5.grownBy w6 (some w2.heap.size))
    (g5 : w6.grownBy w7 (some w2.heap.size)) (g6 : w7.grownBy w8 (some w2.heap.size)) (g7 : w8.grownBy w9 (some w2.heap.size)) (g8 : w9.grownBy w10 (some w2.heap.size)) : Below u.heap.size u w10 := by
  have f : ∀ {v v' : World}, Below u.heap.size u v → v.grownBy v' (some w2.heap.size) → Below u.heap.size u v' := fun k g => k.grown g k.size (fun j hj => by cases hj; exact hB)
  exact f (f (f (f (f (f (f (f h g1) g2) g3) g4) g5) g6) g7) g8

set_option maxHeartbeats 2000000 in
set_option maxRecDepth 100000 in
theorem walk (a0 : Int) (w0 : (Lit.int .u8 a0).wf = true) (w : World) (hT : Lib.Utf8Tabs 0 1 w) :
    Calls Tryd.prog 7 #[.int .u8 a0] w fun e w' => e = .returned (.bool true) ∧ Below w.heap.size w w' := by
  obtain ⟨c, rfl⟩ := Int64.byte_of a0 w0
  have HK := Lib.hid (keyOf_int_mk (P := Tryd.prog) Tryd.underlying5 w0)
  have HT := Lib.hid hT
  obtain ⟨⟨q, n⟩, hq⟩ : ∃ q, Esc.read [92, c] = q := ⟨_, rfl⟩
  clear hT w0
  cases hh : Maps.has D8 (.int .u8 c.toNat) with
  | true =>
    obtain ⟨rfl, hS⟩ := has_true hq hh
    have HS := Lib.hid hS
    have HR := Lib.hid (fun W => Alive5.readOf ⟨#[92, c]⟩ (by show 2 ≤ 1000; omega) (q, 0) hq W)
    clear hq hS
    have hmm := @run_makeMap Tryd.prog
    go_enter Tryd.func7, Tryd.ntmps7
    go_wp2_with (fail)
    refine (Alive5.any w HT.out).mono ?_
    rintro e w1 ⟨rfl, b1⟩
    have hcv := Mem.run_one_plain w1 (c.toNat : Int) c rfl
    have hb1 := b1.alloc b1.size (.cells #[.int .u8 (c.toNat : Int)] 5)
    have HB1 := Lib.hid hb1
    clear hb1
    go_wp2_with (fail)
    refine (HR.out _).mono ?_
    rintro e w2 ⟨rfl, b2⟩
    have HB2 := Lib.hid (HB1.out.trans (b2.mono HB1.out.size))
    have o0 := World.ownsMap_made w2 Tryd.prog 5 R
    have HB3 := Lib.hid (HB2.out.alloc HB2.out.size (.map #[] 0))
    go_wp2_with (first
      | (refine ins _ rfl _ _ _ rfl w2.heap.size 0 _ rfl o0 (by decide) (.int .u8 34) (.string ⟨#[34]⟩) (.int .u8 34) rfl rfl (keyOf_int_mk Tryd.underlying5 (by decide)) [34] rfl ?_; intro w3 o1 g1; refine ins _ rfl _ _ _ rfl w2.heap.size 1 _ rfl o1 (by decide) (.int .u8 92) (.string ⟨#[92]⟩) (.int .u8 92) rfl rfl (keyOf_int_mk Tryd.underlying5 (by decide)) [92] rfl ?_; intro w4 o2 g2; refine ins _ rfl _ _ _ rfl w2.heap.size 2 _ rfl o2 (by decide) (.int .u8 47) (.string ⟨#[47]⟩) (.int .u8 47) rfl rfl (keyOf_int_mk Tryd.underlying5 (by decide)) [47] rfl ?_; intro w5 o3 g3; refine ins _ rfl _ _ _ rfl w2.heap.size 3 _ rfl o3 (by decide) (.int .u8 98) (.string ⟨#[8]⟩) (.int .u8 98) rfl rfl (keyOf_int_mk Tryd.underlying5 (by decide)) [8] rfl ?_; intro w6 o4 g4; refine ins _ rfl _ _ _ rfl w2.heap.size 4 _ rfl o4 (by decide) (.int .u8 102) (.string ⟨#[12]⟩) (.int .u8 102) rfl rfl (keyOf_int_mk Tryd.underlying5 (by decide)) [12] rfl ?_; intro w7 o5 g5; refine ins _ rfl _ _ _ rfl w2.heap.size 5 _ rfl o5 (by decide) (.int .u8 110) (.string ⟨#[10]⟩) (.int .u8 110) rfl rfl (keyOf_int_mk Tryd.underlying5 (by decide)) [10] rfl ?_; intro w8 o6 g6; refine ins _ rfl _ _ _ rfl w2.heap.size 6 _ rfl o6 (by decide) (.int .u8 114) (.string ⟨#[13]⟩) (.int .u8 114) rfl rfl (keyOf_int_mk Tryd.underlying5 (by decide)) [13] rfl ?_; intro w9 o7 g7; refine ins _ rfl _ _ _ rfl w2.heap.size 7 _ rfl o7 (by decide) (.int .u8 116) (.string ⟨#[9]⟩) (.int .u8 116) rfl rfl (keyOf_int_mk Tryd.underlying5 (by decide)) [9] rfl ?_; intro w10 o8 g8; replace o8 : w10.ownsMap Tryd.prog 5 R w2.heap.size 8 D8 := o8)
      | (refine look_str _ rfl _ _ rfl w2.heap.size 8 D8 rfl o8 _ _ rfl HK.out ?_; intro s hs; obtain rfl := HS.out s hs; clear hs))
    go_ret
    exact ⟨rfl, sizes HB3.out HB2.out.size g1 g2 g3 g4 g5 g6 g7 g8⟩
  | false =>
    obtain ⟨rfl, hn⟩ := has_false hq hh
    have b117 : ((c.toNat : Int) == 117) = (c == 117) := Int64.byte_eq c 117 117 rfl
    cases h117 : (c == 117) with
    | true =>
      rw [h117] at b117
      obtain rfl : n = 3 := by rw [hn, if_pos (beq_iff_eq.1 h117)]
      have HR := Lib.hid (fun W => Alive5.readOf ⟨#[92, c]⟩ (by show 2 ≤ 1000; omega) ([], 3) hq W)
      clear hq hn
      have hmm := @run_makeMap Tryd.prog
      go_enter Tryd.func7, Tryd.ntmps7
      go_wp2_with (fail)
      refine (Alive5.any w HT.out).mono ?_
      rintro e w1 ⟨rfl, b1⟩
      have hcv := Mem.run_one_plain w1 (c.toNat : Int) c rfl
      have hb1 := b1.alloc b1.size (.cells #[.int .u8 (c.toNat : Int)] 5)
      have HB1 := Lib.hid hb1
      clear hb1
      go_wp2_with (fail)
      refine (HR.out _).mono ?_
      rintro e w2 ⟨rfl, b2⟩
      have HB2 := Lib.hid (HB1.out.trans (b2.mono HB1.out.size))
      have o0 := World.ownsMap_made w2 Tryd.prog 5 R
      have HB3 := Lib.hid (HB2.out.alloc HB2.out.size (.map #[] 0))
      go_wp2_with (first
        | (refine ins _ rfl _ _ _ rfl w2.heap.size 0 _ rfl o0 (by decide) (.int .u8 34) (.string ⟨#[34]⟩) (.int .u8 34) rfl rfl (keyOf_int_mk Tryd.underlying5 (by decide)) [34] rfl ?_; intro w3 o1 g1; refine ins _ rfl _ _ _ rfl w2.heap.size 1 _ rfl o1 (by decide) (.int .u8 92) (.string ⟨#[92]⟩) (.int .u8 92) rfl rfl (keyOf_int_mk Tryd.underlying5 (by decide)) [92] rfl ?_; intro w4 o2 g2; refine ins _ rfl _ _ _ rfl w2.heap.size 2 _ rfl o2 (by decide) (.int .u8 47) (.string ⟨#[47]⟩) (.int .u8 47) rfl rfl (keyOf_int_mk Tryd.underlying5 (by decide)) [47] rfl ?_; intro w5 o3 g3; refine ins _ rfl _ _ _ rfl w2.heap.size 3 _ rfl o3 (by decide) (.int .u8 98) (.string ⟨#[8]⟩) (.int .u8 98) rfl rfl (keyOf_int_mk Tryd.underlying5 (by decide)) [8] rfl ?_; intro w6 o4 g4; refine ins _ rfl _ _ _ rfl w2.heap.size 4 _ rfl o4 (by decide) (.int .u8 102) (.string ⟨#[12]⟩) (.int .u8 102) rfl rfl (keyOf_int_mk Tryd.underlying5 (by decide)) [12] rfl ?_; intro w7 o5 g5; refine ins _ rfl _ _ _ rfl w2.heap.size 5 _ rfl o5 (by decide) (.int .u8 110) (.string ⟨#[10]⟩) (.int .u8 110) rfl rfl (keyOf_int_mk Tryd.underlying5 (by decide)) [10] rfl ?_; intro w8 o6 g6; refine ins _ rfl _ _ _ rfl w2.heap.size 6 _ rfl o6 (by decide) (.int .u8 114) (.string ⟨#[13]⟩) (.int .u8 114) rfl rfl (keyOf_int_mk Tryd.underlying5 (by decide)) [13] rfl ?_; intro w9 o7 g7; refine ins _ rfl _ _ _ rfl w2.heap.size 7 _ rfl o7 (by decide) (.int .u8 116) (.string ⟨#[9]⟩) (.int .u8 116) rfl rfl (keyOf_int_mk Tryd.underlying5 (by decide)) [9] rfl ?_; intro w10 o8 g8; replace o8 : w10.ownsMap Tryd.prog 5 R w2.heap.size 8 D8 := o8)
        | (refine look_str _ rfl _ _ rfl w2.heap.size 8 D8 rfl o8 _ _ rfl HK.out ?_; intro s hs; clear hs))
      go_ret
      exact ⟨rfl, sizes HB3.out HB2.out.size g1 g2 g3 g4 g5 g6 g7 g8⟩
    | false =>
      rw [h117] at b117
      obtain rfl : n = 2 := by rw [hn, if_neg (beq_eq_false_iff_ne.1 h117)]
      have HR := Lib.hid (fun W => Alive5.readOf ⟨#[92, c]⟩ (by show 2 ≤ 1000; omega) ([], 2) hq W)
      clear hq hn
      have hmm := @run_makeMap Tryd.prog
      go_enter Tryd.func7, Tryd.ntmps7
      go_wp2_with (fail)
      refine (Alive5.any w HT.out).mono ?_
      rintro e w1 ⟨rfl, b1⟩
      have hcv := Mem.run_one_plain w1 (c.toNat : Int) c rfl
      have hb1 := b1.alloc b1.size (.cells #[.int .u8 (c.toNat : Int)] 5)
      have HB1 := Lib.hid hb1
      clear hb1
      go_wp2_with (fail)
      refine (HR.out _).mono ?_
      rintro e w2 ⟨rfl, b2⟩
      have HB2 := Lib.hid (HB1.out.trans (b2.mono HB1.out.size))
      have o0 := World.ownsMap_made w2 Tryd.prog 5 R
      have HB3 := Lib.hid (HB2.out.alloc HB2.out.size (.map #[] 0))
      go_wp2_with (first
        | (refine ins _ rfl _ _ _ rfl w2.heap.size 0 _ rfl o0 (by decide) (.int .u8 34) (.string ⟨#[34]⟩) (.int .u8 34) rfl rfl (keyOf_int_mk Tryd.underlying5 (by decide)) [34] rfl ?_; intro w3 o1 g1; refine ins _ rfl _ _ _ rfl w2.heap.size 1 _ rfl o1 (by decide) (.int .u8 92) (.string ⟨#[92]⟩) (.int .u8 92) rfl rfl (keyOf_int_mk Tryd.underlying5 (by decide)) [92] rfl ?_; intro w4 o2 g2; refine ins _ rfl _ _ _ rfl w2.heap.size 2 _ rfl o2 (by decide) (.int .u8 47) (.string ⟨#[47]⟩) (.int .u8 47) rfl rfl (keyOf_int_mk Tryd.underlying5 (by decide)) [47] rfl ?_; intro w5 o3 g3; refine ins _ rfl _ _ _ rfl w2.heap.size 3 _ rfl o3 (by decide) (.int .u8 98) (.string ⟨#[8]⟩) (.int .u8 98) rfl rfl (keyOf_int_mk Tryd.underlying5 (by decide)) [8] rfl ?_; intro w6 o4 g4; refine ins _ rfl _ _ _ rfl w2.heap.size 4 _ rfl o4 (by decide) (.int .u8 102) (.string ⟨#[12]⟩) (.int .u8 102) rfl rfl (keyOf_int_mk Tryd.underlying5 (by decide)) [12] rfl ?_; intro w7 o5 g5; refine ins _ rfl _ _ _ rfl w2.heap.size 5 _ rfl o5 (by decide) (.int .u8 110) (.string ⟨#[10]⟩) (.int .u8 110) rfl rfl (keyOf_int_mk Tryd.underlying5 (by decide)) [10] rfl ?_; intro w8 o6 g6; refine ins _ rfl _ _ _ rfl w2.heap.size 6 _ rfl o6 (by decide) (.int .u8 114) (.string ⟨#[13]⟩) (.int .u8 114) rfl rfl (keyOf_int_mk Tryd.underlying5 (by decide)) [13] rfl ?_; intro w9 o7 g7; refine ins _ rfl _ _ _ rfl w2.heap.size 7 _ rfl o7 (by decide) (.int .u8 116) (.string ⟨#[9]⟩) (.int .u8 116) rfl rfl (keyOf_int_mk Tryd.underlying5 (by decide)) [9] rfl ?_; intro w10 o8 g8; replace o8 : w10.ownsMap Tryd.prog 5 R w2.heap.size 8 D8 := o8)
        | (refine look_str _ rfl _ _ rfl w2.heap.size 8 D8 rfl o8 _ _ rfl HK.out ?_; intro s hs; clear hs))
      go_ret
      exact ⟨rfl, sizes HB3.out HB2.out.size g1 g2 g3 g4 g5 g6 g7 g8⟩
end Go.Proofs.YtnpbleaikdpjiaaDoor.escapeShort
