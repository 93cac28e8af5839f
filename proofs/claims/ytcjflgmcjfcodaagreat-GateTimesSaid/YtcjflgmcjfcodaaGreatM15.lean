/- Texts of the walk, joined. -/
import Derived.Test.YtcjflgmcjfcodaaGreatM03
import Derived.Test.YtcjflgmcjfcodaaGreatM04
import Derived.Laws.Cover4
set_option maxRecDepth 100000
set_option maxHeartbeats 8000000
namespace Go.Proofs.Tryz end Go.Proofs.Tryz
namespace Go.Proofs.YtcjflgmcjfcodaaGreat
open Go.Proofs.Tryz
section
namespace Esc
theorem zP (c : Chk) (b : UInt8) (h : c.lack ≤ 3) : (c.start b).1.lack ≤ 3 := by
 unfold Chk.start
 repeat' split
 all_goals (dsimp only; omega)
theorem rA (c : Chk) (b : UInt8) (h : c.lack ≤ 3) : (c.step b).1.lack ≤ 3 := by
 unfold Chk.step
 repeat' split
 all_goals first | exact h | exact zP c b h | (dsimp only; omega)
theorem aLg (b : UInt8) : (hex b).toNat < 16 := by
 unfold hex
 repeat' split
 all_goals omega
theorem Rdr.aEk : Rdr.zero.Fits := ⟨by decide, by decide, by decide, by decide, by decide, by decide, by decide⟩
theorem dV (c : Chk) (st v n p e : Nat) (h1 : c.lack ≤ 3) (h2 : st ≤ 2) (h3 : n ≤ 4) (h4 : st = 2 → n ≤ 3) (h5 : v < 16 ^ n) (h6 : p < 65536) (h7 : e < 256) : Rdr.Fits ⟨c, st, v, n, p, e⟩ :=
 ⟨h1, h2, h3, h4, h5, h6, h7⟩
theorem aAz {r : Rdr} (hf : r.Fits) (b : UInt8) : (dO (r.plain b)).1.Fits := by
 have h1 := rA r.c b hf.lack
 unfold Rdr.plain
 split
 ·exact dV _ _ _ _ _ _ hf.lack hf.state hf.n hf.dig hf.val hf.pair (by dsimp only; first | decide | omega)
 ·split
  ·exact dV _ _ _ _ _ _ h1 hf.state hf.n hf.dig hf.val hf.pair (by dsimp only; first | decide | omega)
  ·split
   ·exact dV _ _ _ _ _ _ h1 (by dsimp only; first | decide | omega) hf.n (fun h => absurd h (by dsimp only; first | decide | omega)) hf.val hf.pair (by dsimp only; first | decide | omega)
   ·exact dV _ _ _ _ _ _ h1 hf.state hf.n hf.dig hf.val hf.pair (by dsimp only; first | decide | omega)
theorem wO {r : Rdr} (hf : r.Fits) (b : UInt8) : (dO (r.behind b)).1.Fits := by
 unfold Rdr.behind
 split
 ·exact dV _ _ _ _ _ _ hf.lack (by dsimp only; first | decide | omega) (by dsimp only; first | decide | omega) (fun _ => by dsimp only; decide) (by dsimp only; first | decide | omega) hf.pair (by dsimp only; first | decide | omega)
 ·split
  ·exact dV _ _ _ _ _ _ hf.lack hf.state hf.n hf.dig hf.val hf.pair (by dsimp only; first | decide | omega)
  ·exact dV _ _ _ _ _ _ hf.lack (by dsimp only; first | decide | omega) hf.n (fun h => absurd h (by dsimp only; first | decide | omega)) hf.val hf.pair (by dsimp only; first | decide | omega)
theorem aB6 {r : Rdr} (hf : r.Fits) (b : UInt8) (hn : r.n ≤ 3) : (dO (r.digit b)).1.Fits := by
 have hh := aLg b
 have hv : r.r * 16 + (hex b).toNat < 16 ^ (r.n + 1) := by
  have := hf.val
  rw [Nat.pow_succ]
  omega
 have hv4 : 16 ^ (r.n + 1) ≤ 65536 := Nat.pow_le_pow_right (n := 16) (by decide) (show r.n + 1 ≤ 4 by omega)
 unfold Rdr.digit
 split
 ·exact dV _ _ _ _ _ _ hf.lack hf.state hf.n hf.dig hf.val hf.pair (by dsimp only; first | decide | omega)
 ·dsimp only
  split
  ·rename_i h4
   exact dV _ _ _ _ _ _ hf.lack hf.state (by dsimp only; first | decide | omega) (fun _ => by dsimp only; omega) hv hf.pair (by dsimp only; first | decide | omega)
  ·split
   ·exact dV _ _ _ _ _ _ hf.lack (by dsimp only; first | decide | omega) (by dsimp only; first | decide | omega) (fun h => absurd h (by dsimp only; first | decide | omega)) hv (by dsimp only; first | decide | omega) (by dsimp only; first | decide | omega)
   ·split
    ·exact dV _ _ _ _ _ _ hf.lack (by dsimp only; first | decide | omega) (by dsimp only; first | decide | omega) (fun h => absurd h (by dsimp only; first | decide | omega)) hv hf.pair (by dsimp only; first | decide | omega)
    ·split
     ·exact dV _ _ _ _ _ _ hf.lack (by dsimp only; first | decide | omega) (by dsimp only; first | decide | omega) (fun h => absurd h (by dsimp only; first | decide | omega)) hv (by dsimp only; first | decide | omega) (by dsimp only; first | decide | omega)
     ·exact dV _ _ _ _ _ _ hf.lack (by dsimp only; first | decide | omega) (by dsimp only; first | decide | omega) (fun h => absurd h (by dsimp only; first | decide | omega)) hv hf.pair (by dsimp only; first | decide | omega)
theorem aDc {r : Rdr} (hf : r.Fits) (b : UInt8) : (r.step b).1.Fits := by
 unfold Rdr.step
 split
 ·exact hf
 ·split
  ·exact dV _ _ _ _ _ _ hf.lack hf.state hf.n hf.dig hf.val hf.pair (by decide)
  ·split
   ·exact aAz hf b
   ·split
    ·exact wO hf b
    ·have h2 := hf.state
     exact aB6 hf b (hf.dig (by omega))
theorem wR (x : Int) : (rune x).length ≤ 4 := by
 unfold rune
 split
 ·simp
 ·rw [Array.length_toList]; exact encode_size_le x
theorem nS (r : Rdr) (b : UInt8) : (r.step b).2.1.length ≤ 4 := by
 unfold Rdr.step
 split
 ·simp
 ·split
  ·simp
  ·split
   ·unfold Rdr.plain dO
    repeat' split
    all_goals simp
   ·split
    ·unfold Rdr.behind dO
     repeat' split
     all_goals simp
    ·unfold Rdr.digit dO
     dsimp only
     repeat' split
     all_goals first | exact wR _ | simp
def read (l : List UInt8) : List UInt8 × Nat :=
 if (ans Rdr.zero l []).2.2 ≠ 0 then ([], (ans Rdr.zero l []).2.2)
 else if (ans Rdr.zero l []).2.1 = true then ((ans Rdr.zero l []).1, 0) else ([], 3)
end Esc
end
section
namespace Pip
open Json (Part Wr)
theorem Lex.Fits.mk' {st : Nat} {r : Esc.Rdr} {s : List UInt8} {n : Num} {rest : List UInt8} {k : UInt8} {e : Nat} (h1 : st ≤ 3) (h2 : r.Fits) (h3 : n.Fits) (h4 : rest ∈ rests) (h5 : s.length ≤ 300) (h6 : e = 0 → s.length ≤ 200) (h7 : e < 256) :
  (Lex.mk st r s n rest k e).Fits:=⟨h1,h2,h3,h4,h5,h6,h7⟩
theorem mO (r:Esc.Rdr) (hf:r.Fits) (b:UInt8):(r.step b).2.2 < 256:=by
 have:=hf.e;unfold Esc.Rdr.step;split
 ·exact this
 ·split
  ·show 9 < 256;omega
  ·split
   ·unfold Esc.dO Esc.Rdr.plain;dsimp only;repeat' split
    all_goals (dsimp only;omega)
   ·split
    ·unfold Esc.dO Esc.Rdr.behind;dsimp only;repeat' split
     all_goals (dsimp only;omega)
    ·unfold Esc.dO Esc.Rdr.digit;dsimp only;repeat' split
     all_goals (dsimp only;omega)
theorem Lex.Fits.aK {l:Lex} (h:l.Fits) (h0:l.e=0) (b:UInt8):(l.aK b).1.Fits:=by
 have hn:=Num.Fits.step Num.Fits.new b;have hs:=h.small h0;unfold Lex.aK
 repeat' split
 ·exact h
 ·exact h
 ·exact .mk' (by decide) Esc.Rdr.aEk h.n h.rest (Nat.zero_le _) (fun _=>Nat.zero_le _) h.e
 ·exact .mk' (by decide) h.r hn.1 h.rest h.s (fun _=>hs) hn.2
 ·exact .mk' (by decide) h.r h.n (by decide) h.s h.small h.e
 ·exact .mk' (by decide) h.r h.n (by decide) h.s h.small h.e
 ·exact .mk' (by decide) h.r h.n (by decide) h.s h.small h.e
 ·exact .mk' h.state h.r h.n h.rest h.s (fun _=>hs) (by decide)
theorem Lex.Fits.text {l:Lex} (h:l.Fits) (h0:l.e=0) (b:UInt8):(l.text b).1.Fits:=by
 have hs:=h.small h0;have hl:=Esc.nS l.r b;have he:=mO l.r h.r b;unfold Lex.text;split
 ·exact .mk' (by decide) h.r h.n h.rest h.s (fun _=>hs) h.e
 ·refine .mk' h.state (Esc.aDc h.r b) h.n h.rest (by rw [lla];omega) (fun e0=>?_) ?_
  ·split at e0
   ·cases e0
   ·rename_i hn
    have:¬ 200 < (l.s ++ (l.r.step b).2.1).length:=fun h1=>hn ⟨e0,h1⟩
    omega
  ·split
   ·decide
   ·exact he
theorem rests_tail:∀ l ∈ rests,∀ c r,l=c :: r -> r ∈ rests:=by
 intro l hl c r e;simp only [rests,List.mem_cons,List.not_mem_nil,or_false] at hl;rcases hl with rfl | rfl | rfl | rfl | rfl | rfl | rfl | rfl | rfl | rfl
 all_goals (cases e;try decide)
theorem Lex.Fits.word {l:Lex} (h:l.Fits) (h0:l.e=0) (b:UInt8):(l.word b).1.Fits:=by
 have hs:=h.small h0;unfold Lex.word;split
 ·exact .mk' h.state h.r h.n h.rest h.s (fun _=>hs) (by decide)
 ·rename_i c r hr
  have hr2:=rests_tail _ h.rest c r hr
  repeat' split
  ·exact .mk' h.state h.r h.n h.rest h.s (fun _=>hs) (by decide)
  ·exact .mk' (by decide) h.r h.n hr2 h.s (fun _=>hs) h.e
  ·exact .mk' h.state h.r h.n hr2 h.s (fun _=>hs) h.e
theorem Lex.Fits.ended {l:Lex} (h:l.Fits) (hs:l.s.length <= 200):l.ended.1.Fits:=by
 have hn:=h.n.fin;unfold Lex.ended;split
 ·exact .mk' h.state h.r h.n h.rest h.s (fun _=>hs) hn.2
 ·exact .mk' (by decide) h.r h.n h.rest h.s (fun _=>hs) (by decide)
theorem Lex.Fits.number {l:Lex} (h:l.Fits) (h0:l.e=0) (b:UInt8):(l.number b).1.Fits:=by
 have hs:=h.small h0;have hn:=h.n.step b;unfold Lex.number;split
 ·exact .mk' h.state h.r hn.1 h.rest h.s (fun _=>hs) hn.2
 ·have hm:(Lex.mk l.state l.r l.s (l.n.step b).1 l.rest l.kind 0).Fits:=.mk' h.state h.r hn.1 h.rest h.s (fun _=>hs) (by decide)
  have he:=hm.ended hs
  dsimp only
  split
  ·exact he
  ·rename_i h1
   exact he.aK (Decidable.not_not.1 h1) b
theorem Lex.Fits.act {l:Lex} (h:l.Fits) (h0:l.e=0) (b:UInt8):(l.act b).1.Fits:=by
 unfold Lex.act
 repeat' split
 ·exact h.text h0 b
 ·exact h.word h0 b
 ·exact h.number h0 b
 ·exact h.aK h0 b
theorem Lex.Fits.step {l:Lex} (h:l.Fits) (b:UInt8):(l.step b).1.Fits /\ (l.step b).2.2 < 256:=by
 unfold Lex.step;split
 ·exact ⟨h,h.e⟩
 ·rename_i h0
  have:=h.act (Decidable.not_not.1 h0) b;split
  ·exact ⟨this,this.e⟩
  ·exact ⟨this,nlb rfl⟩
theorem Lex.Fits.fin {l:Lex} (h:l.Fits):l.fin.1.Fits /\ l.fin.2.2 < 256:=by
 unfold Lex.fin;split
 ·exact ⟨h,h.e⟩
 ·rename_i h0
  have hs:=h.small (by omega);split
  ·exact ⟨h.ended hs,(h.ended hs).e⟩
  ·exact ⟨.mk' h.state h.r h.n h.rest h.s (fun _=>hs) (by decide),nlb rfl⟩
theorem Lex.Fits.held {l:Lex} (h:l.Fits):l.held <= 200:=by
 unfold Lex.held;split
 ·exact Nat.zero_le _
 ·exact h.small (by omega)
structure Tok.Fits (t:Tok):Prop where
 text:t.text.length <= 200
 mag:t.mag < 18446744073709551616
theorem Tok.Fits.of {k:UInt8}:(Tok.mk k [] false 0).Fits:=⟨Nat.zero_le _,nlb rfl⟩
theorem Lex.Fits.mG {l:Lex} (b:UInt8):∀ t ∈ (l.aK b).2,t.Fits:=by
 intro t ht;unfold Lex.aK at ht
 repeat' split at ht
 all_goals first | (cases ht;done) | (rw [List.mem_singleton.1 ht];exact .of)
theorem Lex.Fits.qS {l:Lex} (h:l.Fits):∀ t ∈ l.ended.2,t.Fits:=by
 intro t ht;unfold Lex.ended at ht;split at ht
 ·cases ht
 ·rw [List.mem_singleton.1 ht];exact ⟨by simp,h.n.fin.1⟩
theorem Lex.Fits.aE5 {l:Lex} (h:l.Fits) (b:UInt8):∀ t ∈ (l.step b).2.1,t.Fits:=by
 intro t ht;unfold Lex.step at ht;split at ht
 ·cases ht
 rename_i h0;have hs:=h.small (Decidable.not_not.1 h0);split at ht
 ·cases ht
 unfold Lex.act at ht;split at ht
 ·unfold Lex.text at ht
  split at ht
  ·rw [List.mem_singleton.1 ht];exact ⟨hs,nlb rfl⟩
  ·cases ht
 split at ht
 ·unfold Lex.word at ht
  repeat' split at ht
  all_goals first | (cases ht;done) | (rw [List.mem_singleton.1 ht];exact .of)
 split at ht
 ·unfold Lex.number at ht
  split at ht
  ·cases ht
  dsimp only at ht
  split at ht
  ·cases ht
  rcases List.mem_append.1 ht with h1 | h1
  ·exact Lex.Fits.qS (.mk' h.state h.r (h.n.step b).1 h.rest h.s (fun _=>hs) (by decide)) t h1
  ·exact Lex.Fits.mG b t h1
 ·exact Lex.Fits.mG b t ht
theorem Lex.Fits.aGz {l:Lex} (h:l.Fits):∀ t ∈ l.fin.2.1,t.Fits:=by
 intro t ht;unfold Lex.fin at ht
 repeat' split at ht
 all_goals first | (cases ht;done) | exact h.qS t ht
structure Jin.Fits (p:Jin):Prop where
 l:p.l.Fits
 depth:p.depth <= 16
 maps:p.maps.length <= p.depth
 next:p.next <= 6
 e:p.e < 256
 more:p.next=5 -> p.maps ≠ []
theorem Jin.Fits.new (d:Nat) (h:d <= 16):(Jin.new d).Fits:=⟨.new,h,Nat.zero_le _,Nat.zero_le _,nlb rfl,fun h=>by cases h⟩
structure Fine (p:Part):Prop where
 may:p.may=true
 small:p.small
 count:∀ m c,p = .aG m c -> -1 <= c /\ c <= 1000000
 text:∀ s,p = .word s \/ p = .cW s -> s.size <= 200
theorem Fine.word {l:List UInt8} (h:l.length <= 200):Fine (.word ⟨l.toArray⟩):=by
 have hz:(⟨l.toArray⟩:ByteArray).size=l.length:=List.size_toArray ..;refine ⟨rfl,?_,fun _ _ e=>(by cases e),fun s e=>?_⟩
 ·show (⟨l.toArray⟩:ByteArray).size <= 1000;omega
 ·rcases e with e | e
  ·cases e;omega
  ·cases e
theorem Fine.cW {l:List UInt8} (h:l.length <= 200):Fine (.cW ⟨l.toArray⟩):=by
 have hz:(⟨l.toArray⟩:ByteArray).size=l.length:=List.size_toArray ..;refine ⟨rfl,?_,fun _ _ e=>(by cases e),fun s e=>?_⟩
 ·show (⟨l.toArray⟩:ByteArray).size <= 1000;omega
 ·rcases e with e | e
  ·cases e
  ·cases e;omega
theorem Fine.null:Fine .null:=⟨rfl,trivial,fun _ _ e=>(by cases e),fun _ e=>by rcases e with e | e <;> cases e⟩
theorem Fine.bool (b:Bool):Fine (.bool b):=⟨rfl,trivial,fun _ _ e=>(by cases e),fun _ e=>by rcases e with e | e <;> cases e⟩
theorem Fine.close:Fine .close:=⟨rfl,trivial,fun _ _ e=>(by cases e),fun _ e=>by rcases e with e | e <;> cases e⟩
theorem Fine.whole (n:Bool) (m:Nat) (h:m < 18446744073709551616):Fine (.whole n m):=⟨rfl,h,fun _ _ e=>(by cases e),fun _ e=>by rcases e with e | e <;> cases e⟩
theorem Fine.aG (m:Bool) (c:Int) (h1 : -1 <= c) (h2:c <= 1000000):Fine (.aG m c) :=
 ⟨by simp [Part.may,h1],trivial,fun _ _ e=>(by cases e;exact ⟨h1,h2⟩),fun _ e=>by rcases e with e | e <;> cases e⟩
theorem oE (m:List Bool) (h:behind m=5):m ≠ []:=by
 intro e;rw [e] at h
 cases h
theorem tT (m:List Bool):behind m <= 6:=by unfold behind;split <;> decide
theorem Jin.Fits.value {p:Jin} (h:p.Fits) (t:Tok):(p.value t).1.Fits:=by
 have hb:=tT p.maps;unfold Jin.value
 repeat' split
 ·exact ⟨h.l,h.depth,h.maps,h.next,by show 4 < 256;decide,h.more⟩
 ·rename_i h1 _
  refine ⟨h.l,h.depth,?_,?_,h.e,fun _=>by simp⟩
  ·have:=h.maps
   show (p.maps ++ [_]).length <= p.depth;rw [lla,List.length_singleton];omega
  ·dsimp only;omega
 ·refine ⟨h.l,h.depth,?_,?_,h.e,fun _=>by simp⟩
  ·have:=h.maps
   show (p.maps ++ [_]).length <= p.depth;rw [lla,List.length_singleton];omega
  ·dsimp only;omega
 all_goals first | exact ⟨h.l,h.depth,h.maps,hb,h.e,oE _⟩ | exact ⟨h.l,h.depth,h.maps,h.next,by show 2 < 256;decide,h.more⟩
theorem Jin.Fits.token {p:Jin} (h:p.Fits) (t:Tok):(p.token t).1.Fits:=by
 unfold Jin.token;split
 ·exact ⟨h.l,h.depth,h.maps,Nat.zero_le _,h.e,fun e=>by cases e⟩
 split
 ·exact ⟨h.l,h.depth,h.maps,by dsimp only;split <;> decide,h.e,fun e=>by dsimp only at e;split at e <;> cases e⟩
 split
 ·exact ⟨h.l,h.depth,by have:=h.maps;show p.maps.dropLast.length <= p.depth;rw [List.length_dropLast];omega,tT _,h.e,oE _⟩
 split
 ·exact ⟨h.l,h.depth,h.maps,by show 4 <= 6;decide,h.e,fun e=>by cases e⟩
 split
 ·exact ⟨h.l,h.depth,h.maps,h.next,by show 2 < 256;decide,h.more⟩
 ·exact h.value t
theorem Jin.aBt (p:Jin) (t:Tok) (ht:t.Fits):∀ v,(p.token t).2=some v -> Fine v:=by
 intro v hv;unfold Jin.token at hv
 repeat' split at hv
 all_goals first | (cases hv;done) | (injection hv with hv;subst hv;first | exact .close | exact .word ht.text) | skip
 unfold Jin.value at hv
 repeat' split at hv
 all_goals first | (cases hv;done) | (injection hv with hv;subst hv;first | exact .aG _ _ (by decide) (by decide) | exact .word ht.text | exact .whole _ _ ht.mag | exact .bool _ | exact .null)
theorem Jin.Fits.parts:∀ (l:List Tok) (p:Jin) (e:Nat),p.Fits -> e < 256 -> (p.parts l e).1.Fits /\ (p.parts l e).2.2 < 256
 | [],p,e,h,he=>⟨⟨h.l,h.depth,h.maps,h.next,he,h.more⟩,he⟩
 | t :: l,p,e,h,he=>by
  unfold Jin.parts
  split
  ·exact ⟨h.token t,(h.token t).e⟩
  ·exact Jin.Fits.parts l _ e (h.token t) he
theorem Jin.parts_fine:∀ (l:List Tok) (p:Jin) (e:Nat),(∀ t ∈ l,t.Fits) -> ∀ v ∈ (p.parts l e).2.1,Fine v
 | [],p,e,_,v,hv=>by cases hv
 | t :: l,p,e,ht,v,hv=>by
  unfold Jin.parts at hv
  split at hv
  ·cases hv
  ·rcases List.mem_append.1 hv with h1 | h1
   ·exact p.aBt t (ht t mcs) v (by simpa using h1)
   ·exact Jin.parts_fine l _ e (fun x hx=>ht x (mcm _ hx)) v h1
theorem Jin.Fits.on {p:Jin} (h:p.Fits) {l:Lex} (hl:l.Fits):(p.on l).Fits:=⟨hl,h.depth,h.maps,h.next,h.e,h.more⟩
theorem Jin.Fits.step {p:Jin} (h:p.Fits) (b:UInt8):(p.step b).1.Fits /\ (p.step b).2.2 < 256:=by
 unfold Jin.step;split
 ·exact ⟨h,h.e⟩
 ·exact Jin.Fits.parts _ _ _ (h.on (h.l.step b).1) (h.l.step b).2
theorem Jin.Fits.aDd {p:Jin} (h:p.Fits) (b:UInt8):∀ v ∈ (p.step b).2.1,Fine v:=by
 intro v hv;unfold Jin.step at hv;split at hv
 ·cases hv
 ·exact Jin.parts_fine _ _ _ (h.l.aE5 b) v hv
theorem Jin.Fits.fin {p:Jin} (h:p.Fits):p.fin.1.Fits /\ p.fin.2.2 < 256:=by
 unfold Jin.fin;split
 ·exact ⟨h,h.e⟩
 ·have:=Jin.Fits.parts p.l.fin.2.1 _ p.l.fin.2.2 (h.on h.l.fin.1) h.l.fin.2
  dsimp only
  split
  ·exact ⟨⟨this.1.l,this.1.depth,this.1.maps,this.1.next,by show 3 < 256;decide,this.1.more⟩,by show 3 < 256;decide⟩
  ·exact ⟨this.1,this.1.e⟩
theorem Jin.Fits.aHa {p:Jin} (h:p.Fits):∀ v ∈ p.fin.2.1,Fine v:=by
 intro v hv;have:=Jin.parts_fine p.l.fin.2.1 (p.on p.l.fin.1) p.l.fin.2.2 h.l.aGz v;unfold Jin.fin at hv;split at hv
 ·cases hv
 ·dsimp only at hv
  split at hv
  ·exact this hv
  ·exact this hv
theorem Jin.Fits.held {p:Jin} (h:p.Fits):p.held <= 200 + p.depth:=by
 unfold Jin.held;have:=h.l.held;have:=h.maps;split <;> omega
end Pip
end
section
namespace Pip
open Json (Part Wr)
structure Crt.Fits (t:Crt) (n:Nat):Prop where
 low : -1 <= t.count
 high:t.count <= 1000000
 parts:t.parts <= n
theorem Crt.Fits.mono {t:Crt} {n m:Nat} (h:t.Fits n) (hm:n <= m):t.Fits m:=⟨h.low,h.high,by have:=h.parts;omega⟩
structure Core.Fits (c:Core) (n:Nat):Prop where
 depth:c.depth <= 16
 deep:c.opened.length <= c.depth
 aW:∀ t ∈ c.opened,t.Fits n
 e:c.e < 256
 s:c.s.length + c.lack <= 200
 c:c.c.lack <= 3
theorem Core.Fits.mono {c:Core} {n m:Nat} (h:c.Fits n) (hm:n <= m):c.Fits m:=⟨h.depth,h.deep,fun t ht=>(h.aW t ht).mono hm,h.e,h.s,h.c⟩
theorem Core.Fits.new (d:Nat) (h:d <= 16):(Core.new d).Fits 0:=⟨h,Nat.zero_le _,(fun _ h=>by cases h),nlb rfl,Nat.zero_le _,Nat.zero_le _⟩
theorem Core.Fits.fail {c:Core} {n:Nat} (h:c.Fits n) (e:Nat) (he:e < 256):(c.fail e).1.Fits n:=⟨h.depth,h.deep,h.aW,he,h.s,h.c⟩
theorem up_length:∀ l:List Crt,(up l).1.length <= l.length
 | []=>Nat.le_refl _
 | c :: r=>by
  unfold up
  split
  ·have:=up_length r;simp only [List.length_cons];omega
  ·simp
theorem up_count:∀ l:List Crt,(up l).1.length + (up l).2=l.length
 | []=>rfl
 | c :: r=>by
  unfold up
  split
  ·have:=up_count r;simp only [List.length_cons];omega
  ·simp
theorem aCo {n:Nat}:∀ l:List Crt,(∀ t ∈ l,t.Fits n) -> ∀ t ∈ (up l).1,t.Fits (n + 1)
 | [],_=>fun t ht=>by cases ht
 | c :: r,h=>by
  unfold up
  split
  ·exact aCo r fun t ht=>h t (mcm _ ht)
  ·intro t ht
   have hc:=h c mcs
   rcases List.mem_cons.1 ht with rfl | h1
   ·exact ⟨hc.low,hc.high,by have:=hc.parts;show c.parts + 1 <= n + 1;omega⟩
   ·exact (h t (mcm _ h1)).mono (Nat.le_succ _)
theorem Core.Fits.value {c:Core} {n:Nat} (h:c.Fits n) (v:Part):(c.value v).1.Fits (n + 1):=by
 refine ⟨h.depth,?_,fun t ht=>?_,h.e,h.s,h.c⟩
 ·have:=up_length c.opened.reverse
  have:=h.deep;show (up c.opened.reverse).1.reverse.length <= c.depth;rw [List.length_reverse];rw [List.length_reverse] at *;omega
 ·exact aCo c.opened.reverse (fun t ht=>h.aW t (List.mem_reverse.1 ht)) t (List.mem_reverse.1 ht)
theorem Core.eT (c:Core) (v:Part) (hv:Fine v):∀ x ∈ (c.value v).2,Fine x:=by
 intro x hx;rcases List.mem_cons.1 hx with rfl | h1
 ·exact hv
 ·rw [(List.mem_replicate.1 h1).2];exact .close
theorem Core.Fits.begin {c:Core} {n:Nat} (h:c.Fits n) (pairs:Bool) (count:Int) (h1 : -1 <= count) (h2:count <= 1000000) (hd:c.opened.length < c.depth):(c.begin pairs count).1.Fits (n + 1):=by
 unfold Core.begin;split
 ·exact h.value .close
 ·refine ⟨h.depth,?_,fun t ht=>?_,h.e,h.s,h.c⟩
  ·show (c.opened ++ [_]).length <= c.depth
   rw [lla,List.length_singleton];omega
  ·rcases List.mem_append.1 ht with h3 | h3
   ·exact (h.aW t h3).mono (Nat.le_succ _)
   ·rw [List.mem_singleton.1 h3];exact ⟨h1,h2,Nat.zero_le _⟩
theorem Core.lM (c:Core) (pairs:Bool) (count:Int) (h1 : -1 <= count) (h2:count <= 1000000):∀ x ∈ (c.begin pairs count).2,Fine x:=by
 intro x hx;unfold Core.begin at hx;split at hx
 ·rcases List.mem_cons.1 hx with rfl | h3
  ·exact .aG _ _ (by decide) (by decide)
  ·exact c.eT .close .close x h3
 ·rw [List.mem_singleton.1 hx];exact .aG _ _ h1 h2
theorem Core.Fits.break {c:Core} {n:Nat} (h:c.Fits n):c.break.1.Fits (n + 1):=by
 unfold Core.break;split
 ·exact (h.fail 2 (by decide)).mono (Nat.le_succ _)
 ·split
  ·exact (h.fail 2 (by decide)).mono (Nat.le_succ _)
  ·have hd:(Core.mk c.depth c.opened.dropLast c.done c.e c.word c.chunks c.lack c.s c.c).Fits n :=
    ⟨h.depth,by have:=h.deep;show c.opened.dropLast.length <= c.depth;rw [List.length_dropLast];omega,fun t ht=>h.aW t ((List.dropLast_sublist c.opened).subset ht),h.e,h.s,h.c⟩
   exact hd.value .close
theorem Core.zU (c:Core):∀ x ∈ c.break.2,Fine x:=by
 intro x hx;unfold Core.break at hx;split at hx
 ·cases hx
 ·split at hx
  ·cases hx
  ·exact Core.eT _ .close .close x hx
theorem Core.Fits.text {c:Core} {n:Nat} (h:c.Fits n):c.text.1.Fits (n + 1):=by
 unfold Core.text;have hd:(Core.mk c.depth c.opened c.done c.e c.word false c.lack [] c.c).Fits n:=⟨h.depth,h.deep,h.aW,h.e,by have:=h.s;show ([]:List UInt8).length + c.lack <= 200;rw [List.length_nil];omega,h.c⟩;exact hd.value _
theorem Core.nL (c:Core) (h:c.s.length <= 200):∀ x ∈ c.text.2,Fine x:=by
 intro x hx;unfold Core.text at hx;refine Core.eT _ _ ?_ x hx;split
 ·exact .word h
 ·exact .cW h
theorem Core.Fits.length {c:Core} {n:Nat} (h:c.Fits n) (word:Bool) (m:Nat):(c.length word m).1.Fits (n + 1):=by
 unfold Core.length;split
 ·exact (h.fail 5 (by decide)).mono (Nat.le_succ _)
 ·have hs:=h.s
  dsimp only
  have hd:(Core.mk c.depth c.opened c.done c.e word c.chunks m c.s Chk_zero).Fits n:=⟨h.depth,h.deep,h.aW,h.e,by show c.s.length + m <= 200;omega,Nat.zero_le _⟩;split
  ·exact hd.mono (Nat.le_succ _)
  ·exact hd.text
theorem Core.oH {c:Core} {n:Nat} (h:c.Fits n) (word:Bool) (m:Nat):∀ x ∈ (c.length word m).2,Fine x:=by
 intro x hx;have:=h.s;unfold Core.length at hx;split at hx
 ·cases hx
 ·dsimp only at hx
  split at hx
  ·cases hx
  ·exact Core.nL _ (by show c.s.length <= 200;omega) x hx
theorem Core.Fits.fed {c:Core} {n:Nat} (h:c.Fits n) (hl:0 < c.lack) (b:UInt8):(c.fed b).Fits n:=by
 have hs:=h.s;refine ⟨h.depth,h.deep,h.aW,h.e,by show (c.s ++ [b]).length + (c.lack - 1) <= 200;rw [lla,List.length_singleton];omega,?_⟩;show (c.chk b).lack <= 3;unfold Core.chk;split
 ·exact Esc.rA _ _ h.c
 ·exact h.c
theorem Core.Fits.byte {c:Core} {n:Nat} (h:c.Fits n) (hl:0 < c.lack) (b:UInt8):(c.byte b).1.Fits (n + 1):=by
 have hd:=h.fed hl b;unfold Core.byte;split
 ·exact (hd.fail 9 (by decide)).mono (Nat.le_succ _)
 ·split
  ·exact hd.mono (Nat.le_succ _)
  ·exact hd.text
theorem Core.uE {c:Core} {n:Nat} (h:c.Fits n) (hl:0 < c.lack) (b:UInt8):∀ x ∈ (c.byte b).2,Fine x:=by
 intro x hx;have hs:=(h.fed hl b).s;unfold Core.byte at hx;split at hx
 ·cases hx
 ·split at hx
  ·cases hx
  ·exact Core.nL _ (by omega) x hx
theorem Core.Fits.held {c:Core} {n:Nat} (h:c.Fits n):c.held <= 200 + c.depth:=by
 unfold Core.held;have:=h.s;have:=h.deep;split <;> omega
structure Hd.Fits (h:Hd):Prop where
 major:h.major <= 7
 lack:h.lack <= 8
 pos:h.begun=true -> h.fin=false -> h.e=0 -> 0 < h.lack
 v:h.v < 18446744073709551616
 e:h.e < 256
theorem Hd.Fits.new:Hd.new.Fits:=⟨by decide,by decide,(fun h=>by cases h),by decide,by decide⟩
theorem pow_small:∀ k,k < 28 - 24 -> 2 ^ k <= 8 /\ 0 < 2 ^ k:=by decide
theorem Hd.Fits.step {h:Hd} (f:h.Fits) (b:UInt8):(h.step b).1.Fits /\ (h.step b).2.2 < 256:=by
 have hb:=UInt8.toNat_lt b;have hm:b.toNat / 32 <= 7:=by omega
 unfold Hd.step;split
 ·exact ⟨f,f.e⟩
 split
 ·exact ⟨⟨f.major,f.lack,(fun _ _ h5=>by cases h5),f.v,by show 14 < 256;decide⟩,by show 14 < 256;decide⟩
 split
 ·rename_i h0 h1 h2
  have hp:=f.pos h2 (by simpa using h1) (by omega);have hl:=f.lack;refine ⟨⟨f.major,by show h.lack - 1 <= 8;omega,fun _ h4 _=>?_,Nat.mod_lt _ (by decide),f.e⟩,nlb rfl⟩;have:¬ h.lack=1:=by simpa using h4
  show 0 < h.lack - 1;omega
 split
 ·exact ⟨⟨hm,f.lack,(fun _ h4=>by cases h4),by show b.toNat % 32 < _;omega,f.e⟩,nlb rfl⟩
 split
 ·have:=pow_small (b.toNat % 32 - 24) (by omega)
  exact ⟨⟨hm,this.1,fun _ _ _=>this.2,f.v,f.e⟩,nlb rfl⟩
 split
 ·exact ⟨⟨hm,f.lack,(fun _ h4=>by cases h4),f.v,f.e⟩,nlb rfl⟩
 ·exact ⟨⟨hm,f.lack,(fun _ _ h5=>by cases h5),f.v,by show 2 < 256;decide⟩,by show 2 < 256;decide⟩
end Pip
end
section
namespace Pip
open Json (Part Wr)
theorem Core.fQ {c:Core} {n:Nat} (h:c.Fits n) (v:Part):(c.value v).2.length <= 17:=by
 have:=up_count c.opened.reverse;have:=h.deep;have:=h.depth;unfold Core.value;simp only [List.length_cons,List.length_replicate];rw [List.length_reverse] at *
 omega
theorem Core.nH {c:Core} {n:Nat} (h:c.Fits n) (pairs:Bool) (count:Int):(c.begin pairs count).2.length <= 18:=by
 have:=Core.fQ h .close;unfold Core.begin;split
 ·simp only [List.length_cons];omega
 ·simp
theorem Core.rN {c:Core} {n:Nat} (h:c.Fits n):c.text.2.length <= 17:=by
 unfold Core.text;have hd:(Core.mk c.depth c.opened c.done c.e c.word false c.lack [] c.c).Fits n:=⟨h.depth,h.deep,h.aW,h.e,by have:=h.s;show ([]:List UInt8).length + c.lack <= 200;rw [List.length_nil];omega,h.c⟩;exact Core.fQ hd _
theorem Core.aFu {c:Core} {n:Nat} (h:c.Fits n):c.break.2.length <= 17:=by
 unfold Core.break;split
 ·exact Nat.zero_le _
 ·split
  ·exact Nat.zero_le _
  ·have hd:(Core.mk c.depth c.opened.dropLast c.done c.e c.word c.chunks c.lack c.s c.c).Fits n :=
    ⟨h.depth,by have:=h.deep;show c.opened.dropLast.length <= c.depth;rw [List.length_dropLast];omega,fun t ht=>h.aW t ((List.dropLast_sublist c.opened).subset ht),h.e,h.s,h.c⟩
   exact Core.fQ hd _
theorem Core.pK {c:Core} {n:Nat} (h:c.Fits n) (word:Bool) (m:Nat):(c.length word m).2.length <= 17:=by
 have hs:=h.s;unfold Core.length;split
 ·exact Nat.zero_le _
 ·dsimp only
  have hd:(Core.mk c.depth c.opened c.done c.e word c.chunks m c.s Chk_zero).Fits n:=⟨h.depth,h.deep,h.aW,h.e,by show c.s.length + m <= 200;omega,Nat.zero_le _⟩;split
  ·exact Nat.zero_le _
  ·exact Core.rN hd
theorem Core.yW {c:Core} {n:Nat} (h:c.Fits n) (hl:0 < c.lack) (b:UInt8):(c.byte b).2.length <= 17:=by
 have hd:=h.fed hl b;unfold Core.byte;split
 ·exact Nat.zero_le _
 ·split
  ·exact Nat.zero_le _
  ·exact Core.rN hd
theorem Hd.xM (b:UInt8):(Hd.new.step b).1.major=b.toNat / 32 /\ (Hd.new.step b).1.begun=true:=by
 unfold Hd.step Hd.new;rw [ifn (by simp),ifn (by simp),ifn (by simp)]
 repeat' split
 all_goals exact ⟨rfl,rfl⟩
theorem Hd.qA (h:Hd) (b:UInt8) (hb:h.begun=true):(h.step b).1.major=h.major /\ (h.step b).1.begun=true:=by
 unfold Hd.step;by_cases h1:h.e ≠ 0
 ·rw [ifp h1];exact ⟨rfl,hb⟩
 ·rw [ifn h1]
  by_cases h2:h.fin=true
  ·rw [ifp h2];exact ⟨rfl,hb⟩
  ·rw [ifn h2,ifp hb];exact ⟨rfl,hb⟩
theorem Hd.qY (h:Hd) (b:UInt8) (h0:(h.step b).2.2=0):(h.step b).1.fin=(h.step b).2.1 /\ (h.step b).1.e=0:=by
 unfold Hd.step at *
 repeat' split at h0
 all_goals first
  | (simp only at h0;omega)
  | (repeat' split) <;> first | contradiction | (refine ⟨?_,?_⟩ <;> simp_all)
structure Cin.Fits (p:Cin) (n:Nat):Prop where
 c:p.c.Fits n
 h:p.h.Fits
 idle:p.c.e=0 -> p.begun=false -> p.h=Hd.new
 busy:p.c.e=0 -> p.begun=true -> p.h.begun=true /\ p.h.fin=false /\ p.h.e=0 /\ p.c.lack=0 /\ (4 <= p.h.major -> p.c.opened.length < p.c.depth)
theorem Cin.Fits.new (d:Nat) (h:d <= 16):(Cin.new d).Fits 0:=⟨.new d h,.new,fun _ _=>rfl,fun _ h=>by cases h⟩
theorem Cin.Fits.mono {p:Cin} {n m:Nat} (h:p.Fits n) (k:n <= m):p.Fits m:=⟨h.c.mono k,h.h,h.idle,h.busy⟩
theorem Cin.Fits.on {p:Cin} {n m:Nat} (h:p.Fits n) (hb:p.begun=false) (h0:p.c.e=0) {o:Core × List Part} (ho:o.1.Fits m):(p.on o).1.Fits m :=
 ⟨ho,h.h,fun _ _=>h.idle h0 hb,fun _ h2=>by rw [show (p.on o).1.begun=p.begun from rfl,hb] at h2;cases h2⟩
structure Cin.Good (o:Cin × List Part) (n:Nat):Prop where
 fits:o.1.Fits n
 fine:∀ x ∈ o.2,Fine x
 few:o.2.length <= 18
theorem Cin.Good.fail {p:Cin} {n:Nat} (hc:p.c.Fits n) (hh:p.h.Fits) (e:Nat) (he:e < 256) (h0:e ≠ 0):Cin.Good (p.on (p.c.fail e)) (n + 1) :=
 ⟨⟨(hc.fail e he).mono (Nat.le_succ _),hh,fun h=>absurd h h0,fun h=>absurd h h0⟩,(fun x hx=>by cases hx),Nat.zero_le _⟩
theorem Cin.jT {p:Cin} {n:Nat} (h:p.Fits n) (hb:p.begun=false) (h0:p.c.e=0) (major v:Nat) (without:Bool) (hv:v < 18446744073709551616) (hd:4 <= major -> p.c.opened.length < p.c.depth):Cin.Good (p.behind major v without) (n + 1):=by
 unfold Cin.behind;split
 ·exact ⟨h.on hb h0 (h.c.value _),Core.eT _ _ (.whole _ _ hv),Nat.le_succ_of_le (Core.fQ h.c _)⟩
 ·split
  ·split
   ·refine ⟨⟨⟨h.c.depth,h.c.deep,fun t ht=>(h.c.aW t ht).mono (Nat.le_succ _),h.c.e,h.c.s,h.c.c⟩,h.h,fun _ _=>h.idle h0 hb,fun _ h2=>?_⟩,(fun x hx=>by cases hx),Nat.zero_le _⟩
    simp only at h2;rw [hb] at h2;cases h2
   ·exact ⟨h.on hb h0 (h.c.length _ _),Core.oH h.c _ _,Nat.le_succ_of_le (Core.pK h.c _ _)⟩
  ·have hm:p.c.opened.length < p.c.depth:=hd (by omega)
   split
   ·exact ⟨h.on hb h0 (h.c.begin _ _ (by omega) (by omega) hm),Core.lM _ _ _ (by omega) (by omega),Core.nH h.c _ _⟩
   ·split
    ·exact Cin.Good.fail h.c h.h 7 (by decide) (by decide)
    ·exact ⟨h.on hb h0 (h.c.begin _ _ (by omega) (by omega) hm),Core.lM _ _ _ (by omega) (by omega),Core.nH h.c _ _⟩
theorem Cin.nP {p:Cin} {n:Nat} (h:p.Fits n) (h0:p.c.e=0) (hl:p.c.lack=0) (b:UInt8) (hd:4 <= (p.h.step b).1.major -> p.c.opened.length < p.c.depth) (hbg:(p.h.step b).1.begun=true):Cin.Good (p.head b) (n + 1):=by
 have hs:=h.h.step b;unfold Cin.head
 dsimp only
 split
 ·rename_i h1
  exact Cin.Good.fail (p:=⟨p.c,(p.h.step b).1,!(p.h.step b).2.1⟩) h.c hs.1 _ hs.2 h1
 ·rename_i h1
  have h1:(p.h.step b).2.2=0:=Decidable.not_not.1 h1;obtain ⟨f1,f2⟩:=Hd.qY p.h b h1;split
  ·rename_i h2
   refine ⟨⟨h.c.mono (Nat.le_succ _),hs.1,fun _ h3=>?_,fun _ _=>⟨hbg,by rw [f1,h2],f2,hl,hd⟩⟩,(fun x hx=>by cases hx),Nat.zero_le _⟩;simp only [h2] at h3
   cases h3
  ·have hF:(Cin.mk p.c Hd.new false).Fits n:=⟨h.c,.new,fun _ _=>rfl,fun _ h=>by cases h⟩
   exact Cin.jT hF rfl h0 _ _ _ hs.1.v hd
theorem Cin.wK {p:Cin} {n:Nat} (h:p.Fits n) (hb:p.begun=false) (h0:p.c.e=0) (low:Nat):Cin.Good (p.simple low) (n + 1):=by
 unfold Cin.simple;split
 ·exact ⟨h.on hb h0 (h.c.value _),Core.eT _ _ (.bool _),Nat.le_succ_of_le (Core.fQ h.c _)⟩
 split
 ·exact ⟨h.on hb h0 (h.c.value _),Core.eT _ _ .null,Nat.le_succ_of_le (Core.fQ h.c _)⟩
 split
 ·exact Cin.Good.fail h.c h.h 6 (by decide) (by decide)
 ·exact Cin.Good.fail h.c h.h 8 (by decide) (by decide)
theorem Cin.oY {p:Cin} {n:Nat} (h:p.Fits n) (h0:p.c.e=0) (b:UInt8):Cin.Good (p.act b) (n + 1):=by
 unfold Cin.act;split
 ·rename_i hl
  have hb:p.begun=false:=by
   cases hb:p.begun with
   | false=>rfl
   | true=>have:=(h.busy h0 hb).2.2.2.1;omega
  exact ⟨h.on hb h0 (h.c.byte hl b),Core.uE h.c hl b,Nat.le_succ_of_le (Core.yW h.c hl b)⟩
 ·rename_i hl
  split
  ·rename_i hb
   obtain ⟨g1,g2,g3,g4,g5⟩:=h.busy h0 hb;obtain ⟨m1,m2⟩:=Hd.qA p.h b g1;exact Cin.nP h h0 (by omega) b (by rw [m1];exact g5) m2
  ·rename_i hb
   have hb:p.begun=false:=by simpa using hb
   have hn:=h.idle h0 hb;obtain ⟨m1,m2⟩:=Hd.xM b;rw [<- hn] at m1 m2;split
   ·unfold Cin.chunk
    split
    ·exact ⟨h.on hb h0 h.c.text,Core.nL _ (by have:=h.c.s;omega),Nat.le_succ_of_le (Core.rN h.c)⟩
    ·by_cases h3:b.toNat / 32 ≠ (if p.c.word then 3 else 2) \/ b.toNat % 32=31
     ·rw [ifp h3]
      exact Cin.Good.fail h.c h.h 2 (by decide) (by decide)
     ·rw [ifn h3]
      refine Cin.nP h h0 (by omega) b (fun h4=>?_) m2;rw [m1] at h4;exfalso;apply h3;left;split <;> omega
   ·unfold Cin.item
    dsimp only
    split
    ·exact Cin.Good.fail h.c h.h 2 (by decide) (by decide)
    split
    ·exact Cin.Good.fail h.c h.h 2 (by decide) (by decide)
    split
    ·exact ⟨h.on hb h0 h.c.break,Core.zU _,Nat.le_succ_of_le (Core.aFu h.c)⟩
    split
    ·exact Cin.Good.fail h.c h.h 8 (by decide) (by decide)
    split
    ·exact Cin.wK h hb h0 _
    split
    ·exact Cin.Good.fail h.c h.h 4 (by decide) (by decide)
    ·rename_i h5 h6 h7
     refine Cin.nP h h0 (by omega) b (fun h4=>?_) m2;rw [m1] at h4;have hlt:=UInt8.toNat_lt b;have h8:b.toNat / 32=4 \/ b.toNat / 32=5:=by omega
     have:p.c.full ≠ true:=fun h9=>h7 ⟨h8,h9⟩
     unfold Core.full at this;simp at this;exact this
theorem Cin.eU {p:Cin} {n:Nat} (h:p.Fits n) (b:UInt8):Cin.Good ((p.step b).1,(p.step b).2.1) (n + 1) /\ (p.step b).2.2 < 256:=by
 unfold Cin.step;split
 ·exact ⟨⟨h.mono (Nat.le_succ _),(fun x hx=>by cases hx),Nat.zero_le _⟩,h.c.e⟩
 ·rename_i h0
  have:=Cin.oY h (Decidable.not_not.1 h0) b;exact ⟨⟨this.fits,this.fine,this.few⟩,this.fits.c.e⟩
structure Pin.Fits (p:Pin) (n:Nat):Prop where
 c:p.c.Fits n
 kind:p.kind <= 6
 busy:p.c.e=0 -> p.kind ≠ 0 -> 0 < p.lack /\ p.lack <= p.all /\ (p.all=1 \/ p.all=2 \/ p.all=4 \/ p.all=8) /\ p.v < 256 ^ (p.all - p.lack) /\ p.c.lack=0 /\ (5 <= p.kind -> p.c.opened.length < p.c.depth)
theorem Pin.Fits.new (d:Nat) (h:d <= 16):(Pin.new d).Fits 0:=⟨.new d h,Nat.zero_le _,fun _ h=>absurd rfl h⟩
theorem Pin.Fits.mono {p:Pin} {n m:Nat} (h:p.Fits n) (k:n <= m):p.Fits m:=⟨h.c.mono k,h.kind,h.busy⟩
structure Pin.Good (o:Pin × List Part) (n:Nat):Prop where
 fits:o.1.Fits n
 fine:∀ x ∈ o.2,Fine x
 few:o.2.length <= 18
theorem Pin.Fits.on {p:Pin} {m:Nat} (hk:p.kind=0) {o:Core × List Part} (ho:o.1.Fits m):(p.on o).1.Fits m :=
 ⟨ho,by show p.kind <= 6;omega,fun _ h=>absurd hk h⟩
theorem Pin.Good.fail {p:Pin} {n:Nat} (h:p.c.Fits n) (hk:p.kind <= 6) (e:Nat) (he:e < 256) (h0:e ≠ 0):Pin.Good (p.on (p.c.fail e)) (n + 1) :=
 ⟨⟨(h.fail e he).mono (Nat.le_succ _),hk,fun h=>absurd h h0⟩,(fun x hx=>by cases hx),Nat.zero_le _⟩
theorem Pin.Good.value {p:Pin} {n:Nat} (h:p.c.Fits n) (hk:p.kind=0) (v:Part) (hv:Fine v):Pin.Good (p.on (p.c.value v)) (n + 1) :=
 ⟨.on hk (h.value v),Core.eT _ _ hv,Nat.le_succ_of_le (Core.fQ h v)⟩
theorem Pin.Good.count {p:Pin} {n:Nat} (h:p.c.Fits n) (hk:p.kind=0) (pairs:Bool) (m:Nat) (hd:p.c.opened.length < p.c.depth):Pin.Good (p.count pairs m) (n + 1):=by
 unfold Pin.count;split
 ·exact Pin.Good.fail h (by omega) 7 (by decide) (by decide)
 ·exact ⟨.on hk (h.begin _ _ (by omega) (by omega) hd),Core.lM _ _ _ (by omega) (by omega),Core.nH h _ _⟩
theorem Pin.Good.length {p:Pin} {n:Nat} (h:p.c.Fits n) (hk:p.kind=0) (word:Bool) (m:Nat):Pin.Good (p.on (p.c.length word m)) (n + 1) :=
 ⟨.on hk (h.length _ _),Core.oH h _ _,Nat.le_succ_of_le (Core.pK h _ _)⟩
theorem aDu (v all:Nat) (ha:all=1 \/ all=2 \/ all=4 \/ all=8) (hv:v < 256 ^ all):(signed v all).2 < 18446744073709551616:=by
 unfold signed;rcases ha with rfl | rfl | rfl | rfl
 all_goals
  simp only [Nat.reduceMul,Nat.reduceSub,Nat.reducePow] at *
  split
  ·simp only;omega
  ·simp only;omega
theorem tX (all:Nat) (ha:all=1 \/ all=2 \/ all=4 \/ all=8):256 ^ all <= 18446744073709551616:=by
 rcases ha with rfl | rfl | rfl | rfl <;> decide
theorem Pin.jT {p : Pin} {n : Nat} (h : p.c.Fits n) (hk : p.kind = 0) (kind v : Nat) (hv : v < 18446744073709551616) (ha : p.all = 1 ∨ p.all = 2 ∨ p.all = 4 ∨ p.all = 8) (hva : v < 256 ^ p.all) (hd : 5 ≤ kind → p.c.opened.length < p.c.depth) (h0 : kind ≠ 0) :
  Pin.Good (p.behind kind v) (n + 1):=by
 unfold Pin.behind;split
 ·exact Pin.Good.value h hk _ (.whole _ _ hv)
 split
 ·exact Pin.Good.value h hk _ (.whole _ _ (aDu v p.all ha hva))
 split
 ·exact Pin.Good.length h hk _ _
 ·exact Pin.Good.count h hk _ _ (hd (by omega))
theorem Pin.aGa {p:Pin} {n:Nat} (h:p.Fits n) (h0:p.c.e=0) (hk:p.kind ≠ 0) (b:UInt8):p.v * 256 + b.toNat < 256 ^ (p.all - (p.lack - 1)):=by
 obtain ⟨h1,h2,-,h3,-⟩:=h.busy h0 hk;have hb:=UInt8.toNat_lt b;rw [show p.all - (p.lack - 1)=(p.all - p.lack) + 1 by omega,Nat.pow_succ];omega
theorem Pin.wQ {p:Pin} {n:Nat} (h:p.Fits n) (h0:p.c.e=0) (hk:p.kind ≠ 0) (b:UInt8):Pin.Good (p.number b) (n + 1):=by
 have hlt:=Pin.aGa h h0 hk b;obtain ⟨h1,h2,h3,h4,h5,h6⟩:=h.busy h0 hk;have hle:256 ^ (p.all - (p.lack - 1)) <= 256 ^ p.all:=Nat.pow_le_pow_right (by decide) (Nat.sub_le _ _);have ha:=tX p.all h3;have hmod:(p.v * 256 + b.toNat) % 18446744073709551616=p.v * 256 + b.toNat:=Nat.mod_eq_of_lt (by omega);unfold Pin.number
 dsimp only
 rw [hmod];split
 ·exact ⟨⟨h.c.mono (Nat.le_succ _),h.kind,fun _ _=>⟨by show 0 < p.lack - 1;omega,by show p.lack - 1 <= p.all;omega,h3,hlt,h5,h6⟩⟩,(fun x hx=>by cases hx),Nat.zero_le _⟩
 ·exact Pin.jT (p:=⟨p.c,0,p.lack - 1,p.all,_⟩) h.c rfl p.kind _ (by omega) h3 (Nat.lt_of_lt_of_le hlt hle) h6 hk
theorem Pin.Good.follows {p:Pin} {n:Nat} (h:p.c.Fits n) (hl:p.c.lack=0) (kind k:Nat) (hk:kind <= 6) (ha:k=1 \/ k=2 \/ k=4 \/ k=8) (hd:5 <= kind -> p.c.opened.length < p.c.depth):Pin.Good (p.follows kind k) (n + 1) :=
 ⟨⟨h.mono (Nat.le_succ _),hk,fun _ _=>⟨by show 0 < k;omega,Nat.le_refl _,ha,by show 0 < 256 ^ (k - k);simp,hl,hd⟩⟩,(fun x hx=>by cases hx),Nat.zero_le _⟩
theorem aCy (k:Nat) (h:k < 4):2 ^ k=1 \/ 2 ^ k=2 \/ 2 ^ k=4 \/ 2 ^ k=8:=by
 rcases (show k=0 \/ k=1 \/ k=2 \/ k=3 by omega) with rfl | rfl | rfl | rfl <;> decide
theorem aKu (k:Nat) (h:k < 2):2 * 2 ^ k=1 \/ 2 * 2 ^ k=2 \/ 2 * 2 ^ k=4 \/ 2 * 2 ^ k=8:=by
 rcases (show k=0 \/ k=1 by omega) with rfl | rfl <;> decide
theorem Pin.Good.ite {c:Prop} [Decidable c] {a b:Pin × List Part} {n:Nat} (ha:c -> Pin.Good a n) (hb:¬ c -> Pin.Good b n):Pin.Good (if c then a else b) n:=by
 by_cases h:c
 ·rw [ifp h];exact ha h
 ·rw [ifn h];exact hb h
theorem Pin.aFg {p:Pin} {n:Nat} (h:p.c.Fits n) (hl:p.c.lack=0) (b:UInt8) (h1:196 <= b.toNat) (h2:b.toNat < 224) (hd:cP b=true -> p.c.opened.length < p.c.depth):Pin.Good (p.long b) (n + 1):=by
 unfold Pin.long;refine .ite (fun _=>.follows h hl _ _ (by decide) (aCy _ (by omega)) (by omega)) fun g1=>.ite (fun _=>.follows h hl _ _ (by decide) (aCy _ (by omega)) (by omega)) fun g2=>.ite (fun _=>.follows h hl _ _ (by decide) (aCy _ (by omega)) (by omega)) fun g3 =>
  .ite (fun _=>.follows h hl _ _ (by decide) (aCy _ (by omega)) (by omega)) fun g4=>.ite (fun _=>.follows h hl _ _ (by decide) (aKu _ (by omega)) fun _=>hd ?_) fun g5=>.follows h hl _ _ (by decide) (aKu _ (by omega)) fun _=>hd ?_
 ·unfold cP;simp;omega
 ·unfold cP;simp;omega
theorem Pin.aDe {p:Pin} {n:Nat} (h:p.c.Fits n) (hk:p.kind=0) (hl:p.c.lack=0) (b:UInt8):Pin.Good (p.item b) (n + 1):=by
 have hlt:=UInt8.toNat_lt b;have hk6:p.kind <= 6:=by omega
 unfold Pin.item
 dsimp only
 refine .ite (fun _=>.fail h hk6 2 (by decide) (by decide)) fun g1=>.ite (fun _=>.fail h hk6 8 (by decide) (by decide)) fun g2=>.ite (fun _=>.fail h hk6 8 (by decide) (by decide)) fun g3=>.ite (fun _=>.fail h hk6 6 (by decide) (by decide)) fun g4 =>
  .ite (fun _=>.fail h hk6 4 (by decide) (by decide)) fun hf=>?_
 have hd:cP b=true -> p.c.opened.length < p.c.depth:=by
  intro hc;have:p.c.full ≠ true:=fun h9=>hf ⟨hc,h9⟩
  unfold Core.full at this;simp at this;exact this
 refine .ite (fun _=>.value h hk _ (.whole _ _ (by omega))) fun g5=>.ite (fun _=>.value h hk _ (.whole _ _ (by omega))) fun g6=>.ite (fun g=>.count h hk _ _ (hd ?_)) fun g7=>.ite (fun _=>.length h hk _ _) fun g8=>.ite (fun _=>.value h hk _ .null) fun g9 =>
  .ite (fun _=>.value h hk _ (.bool _)) fun g10=>Pin.aFg h hl b (by omega) (by omega) hd
 unfold cP;simp;omega
theorem Pin.oY {p:Pin} {n:Nat} (h:p.Fits n) (h0:p.c.e=0) (b:UInt8):Pin.Good (p.act b) (n + 1):=by
 unfold Pin.act;refine .ite (fun hl=>?_) fun hl=>.ite (fun hk=>Pin.wQ h h0 hk b) fun hk=>Pin.aDe h.c (Decidable.not_not.1 hk) (by omega) b
 have hk:p.kind=0:=by
  apply Decidable.byContradiction;intro hk;have:=(h.busy h0 hk).2.2.2.2.1;omega
 exact ⟨.on hk (h.c.byte hl b),Core.uE h.c hl b,Nat.le_succ_of_le (Core.yW h.c hl b)⟩
theorem Pin.eU {p:Pin} {n:Nat} (h:p.Fits n) (b:UInt8):Pin.Good ((p.step b).1,(p.step b).2.1) (n + 1) /\ (p.step b).2.2 < 256:=by
 unfold Pin.step;split
 ·exact ⟨⟨h.mono (Nat.le_succ _),(fun x hx=>by cases hx),Nat.zero_le _⟩,h.c.e⟩
 ·rename_i h0
  have:=Pin.oY h (Decidable.not_not.1 h0) b;exact ⟨⟨this.fits,this.fine,this.few⟩,this.fits.c.e⟩
end Pip
end
section
namespace Pip
open Json (Part Wr)
structure Stg.Fits (s:Stg):Prop where
 limit:s.limit <= 2000
 size:s.size <= s.limit
 held:s.held.length <= s.size
 opened:s.opened.length <= s.held.length
 places:∀ c ∈ s.opened,c.place < s.held.length /\ c.parts <= s.held.length
 fine:∀ v ∈ s.held,Fine v
 e:s.e < 256
 some:s.opened=[] -> s.held=[] /\ s.size=0
theorem Stg.Fits.new (n:Nat) (h:n <= 2000):(Stg.new n).Fits:=⟨h,Nat.zero_le _,Nat.le_refl _,Nat.le_refl _,(fun _ h=>by cases h),(fun _ h=>by cases h),nlb rfl,fun _=>⟨rfl,rfl⟩⟩
theorem pE (v:Part):1 <= sizeOf v:=by
 cases v <;> simp [sizeOf]
theorem Fine.size {v:Part} (h:Fine v):sizeOf v <= 201:=by
 cases v with
 | word s=>have:=h.text s (.inl rfl);show 1 + s.size <= 201;omega
 | cW s=>have:=h.text s (.inr rfl);show 1 + s.size <= 201;omega
 | _=>simp [sizeOf]
theorem Stg.fails:(Stg.mk 0 [] 0 [] 10).Fits:=⟨Nat.zero_le _,Nat.le_refl _,Nat.le_refl _,Nat.le_refl _,(fun _ h=>by cases h),(fun _ h=>by cases h),nlb rfl,fun _=>⟨rfl,rfl⟩⟩
structure Stg.aJm (s:Stg):Prop where
 limit:s.limit <= 2000
 size:s.size <= s.limit
 held:s.held.length <= s.size
 opened:s.opened.length <= s.held.length + 1
 some:s.opened ≠ []
 places:∀ c ∈ s.opened,c.place <= s.held.length /\ c.parts <= s.held.length + 1
 fine:∀ v ∈ s.held,Fine v
 e:s.e < 256
theorem Stg.aJm.hold {s:Stg} (h:s.aJm) (v:Part) (hv:Fine v):(s.hold v).1.Fits /\ (s.hold v).2 < 256:=by
 have hp:=pE v;unfold Stg.hold;split
 ·exact ⟨Stg.fails,by decide⟩
 ·have h1:=h.held
  have h2:=h.opened;refine ⟨⟨h.limit,by show s.size + sizeOf v <= s.limit;omega,?_,?_,fun c hc=>?_,fun x hx=>?_,h.e,fun h0=>absurd h0 h.some⟩,h.e⟩
  ·show (s.held ++ [v]).length <= s.size + sizeOf v
   rw [lla,List.length_singleton];omega
  ·show s.opened.length <= (s.held ++ [v]).length
   rw [lla,List.length_singleton];exact h2
  ·have:=h.places c hc
   show c.place < (s.held ++ [v]).length /\ c.parts <= (s.held ++ [v]).length;rw [lla,List.length_singleton];omega
  ·rcases List.mem_append.1 hx with h3 | h3
   ·exact h.fine x h3
   ·rw [List.mem_singleton.1 h3];exact hv
theorem Stg.wV (s:Stg) (v:Part):(s.hold v).1.held.length <= s.held.length + 1:=by
 unfold Stg.hold;split
 ·exact Nat.zero_le _
 ·simp
theorem bG (held:List Part) (c:jM):(aT held c).length=held.length:=by
 unfold aT;split
 ·split
  ·rw [List.length_set]
  ·rfl
 ·rfl
theorem vI (held:List Part) (c:jM) (hc:c.parts <= 2000) (h:∀ v ∈ held,Fine v):∀ v ∈ aT held c,Fine v:=by
 intro v hv;unfold aT at hv;split at hv
 ·split at hv
  ·rcases List.mem_or_eq_of_mem_set hv with h1 | h1
   ·exact h v h1
   ·rw [h1]
    refine .aG _ _ (by omega) ?_;split <;> omega
  ·exact h v hv
 ·exact h v hv
theorem Stg.dD (s:Stg):s.aR.length=s.opened.length:=by
 unfold Stg.aR
 cases hl:s.opened.getLast? with
 | none=>rw [List.getLast?_eq_none_iff.1 hl]
 | some c =>
  have hpos:0 < s.opened.length:=List.length_pos_of_mem (List.mem_of_getLast? hl);simp;omega
theorem Stg.aB3 (s:Stg) (h:s.Fits):∀ c ∈ s.aR,c.place <= s.held.length /\ c.parts <= s.held.length + 1:=by
 intro c hc;unfold Stg.aR at hc;split at hc
 ·cases hc
 ·rename_i t ht
  rcases List.mem_append.1 hc with h1 | h1
  ·have:=h.places c ((List.dropLast_sublist _).subset h1);omega
  ·have:=h.places t (List.mem_of_getLast? ht)
   rw [List.mem_singleton.1 h1];show t.place <= _ /\ t.parts + 1 <= _;omega
structure Stg.Good (s:Stg) (o:Stg × List Part × Nat):Prop where
 fits:o.1.Fits
 fine:∀ v ∈ o.2.1,Fine v
 few:o.2.1.length + o.1.held.length <= s.held.length + 1
 e:o.2.2 < 256
theorem Stg.Fits.step {s:Stg} (h:s.Fits) (v:Part) (hv:Fine v):s.Good (s.step v):=by
 have hp:=pE v;unfold Stg.step;split
 ·exact ⟨h,(fun x hx=>by cases hx),by simp,h.e⟩
 split
 ·exact ⟨h,(fun x hx=>by cases hx),by simp,nlb rfl⟩
 split
 ·exact ⟨h,(fun x hx=>by rw [List.mem_singleton.1 hx];exact hv),by simp;omega,nlb rfl⟩
 rename_i h3;split
 ·unfold Stg.close
  split
  ·exact ⟨h,(fun x hx=>by cases hx),by simp,nlb rfl⟩
  ·rename_i c hc
   have hm:=h.places c (List.mem_of_getLast? hc);have hh:=h.held;have hs:=h.size;have hl:=h.limit;have hcf:=vI s.held c (by omega) h.fine;have hcl:=bG s.held c
   dsimp only
   split
   ·rename_i h4
    have hH:Stg.aJm ⟨s.limit,aT s.held c,s.size,s.opened.dropLast,s.e⟩:=by
     refine ⟨h.limit,h.size,by show (aT s.held c).length <= s.size;omega,?_,?_,fun t ht=>?_,hcf,h.e⟩
     ·have:=h.opened
      show s.opened.dropLast.length <= (aT s.held c).length + 1;rw [List.length_dropLast];omega
     ·intro h5
      have h6:=congrArg List.length h5;simp only [List.length_dropLast,List.length_nil] at h6;omega
     ·have:=h.places t ((List.dropLast_sublist _).subset ht)
      show t.place <= (aT s.held c).length /\ t.parts <= (aT s.held c).length + 1;omega
    have hg:=hH.hold .close .close;exact ⟨hg.1,(fun x hx=>by cases hx),Nat.le_trans (Nat.le_of_eq (Nat.zero_add _)) (Nat.le_trans (Stg.wV _ .close) (by show (aT s.held c).length + 1 <= _;omega)),hg.2⟩
   ·rename_i h4
    have hd:s.opened.dropLast=[]:=List.eq_nil_of_length_eq_zero (by rw [List.length_dropLast];omega);refine ⟨⟨h.limit,Nat.zero_le _,Nat.le_refl _,by rw [hd];exact Nat.le_refl _,(fun t ht=>by rw [hd] at ht;cases ht),(fun x hx=>by cases hx),h.e,fun _=>⟨rfl,rfl⟩⟩,fun x hx=>?_,?_,nlb rfl⟩
    ·rcases List.mem_append.1 hx with h5 | h5
     ·exact hcf x h5
     ·rw [List.mem_singleton.1 h5];exact .close
    ·simp only [lla,List.length_singleton,List.length_nil];omega
 ·have hbl:=s.dD
  have ho:=h.opened;have hH:Stg.aJm ⟨s.limit,s.held,s.size,s.aR ++ (if Part_begins v then [⟨s.held.length,0⟩] else []),s.e⟩:=by
   refine ⟨h.limit,h.size,h.held,?_,?_,fun t ht=>?_,h.fine,h.e⟩
   ·show (s.aR ++ _).length <= s.held.length + 1
    rw [lla,hbl];split
    ·rw [List.length_singleton];omega
    ·rw [List.length_nil];omega
   ·intro h5
    have h6:=congrArg List.length h5;rw [lla,hbl,List.length_nil] at h6;have h7:s.opened=[]:=List.eq_nil_of_length_eq_zero (by omega);apply h3;refine ⟨h7,?_⟩
    cases v with
    | aG m c=>simp [Part_begins] at h6
    | _=>rfl
   ·rcases List.mem_append.1 ht with h5 | h5
    ·exact s.aB3 h t h5
    ·split at h5
     ·rw [List.mem_singleton.1 h5];exact ⟨Nat.le_refl _,Nat.zero_le _⟩
     ·cases h5
  have hg:=hH.hold v hv;exact ⟨hg.1,(fun x hx=>by cases hx),Nat.le_trans (Nat.le_of_eq (Nat.zero_add _)) (Stg.wV _ v),hg.2⟩
structure Cw.Fits (w:Cw) (n:Nat):Prop where
 deep:w.opened.length <= n
 parts:∀ c ∈ w.opened,c.parts <= n /\ -1 <= c.count /\ c.count <= 1000000
theorem Cw.Fits.new:Cw.new.Fits 0:=⟨Nat.le_refl _,fun c h=>by cases h⟩
theorem Cw.Fits.mono {w:Cw} {n m:Nat} (h:w.Fits n) (k:n <= m):w.Fits m:=⟨Nat.le_trans h.deep k,fun c hc=>by have:=h.parts c hc;omega⟩
theorem Cw.dD (w:Cw):w.aR.length=w.opened.length:=by
 unfold Cw.aR
 cases hl:w.opened.getLast? with
 | none=>rw [List.getLast?_eq_none_iff.1 hl]
 | some c =>
  have hpos:0 < w.opened.length:=List.length_pos_of_mem (List.mem_of_getLast? hl);simp;omega
theorem Cw.Fits.aR {w:Cw} {n:Nat} (h:w.Fits n) (d:Bool):(Cw.mk w.aR d).Fits (n + 1):=by
 refine ⟨by show w.aR.length <= n + 1;rw [w.dD];have:=h.deep;omega,fun c hc=>?_⟩;have hc:c ∈ w.aR:=hc;unfold Cw.aR at hc;split at hc
 ·cases hc
 ·rename_i t ht
  rcases List.mem_append.1 hc with h1 | h1
  ·have:=h.parts c ((List.dropLast_sublist _).subset h1);omega
  ·have:=h.parts t (List.mem_of_getLast? ht)
   rw [List.mem_singleton.1 h1];show t.parts + 1 <= _ /\ -1 <= t.count /\ t.count <= 1000000;omega
theorem Cw.Fits.dropped {w:Cw} {n:Nat} (h:w.Fits n) (d:Bool):(Cw.mk w.opened.dropLast d).Fits (n + 1) :=
 ⟨by have:=h.deep;show w.opened.dropLast.length <= n + 1;rw [List.length_dropLast];omega,fun c hc=>by have:=h.parts c ((List.dropLast_sublist _).subset hc);omega⟩
theorem Cw.Fits.begun {w:Cw} {n:Nat} (h:w.Fits n) (m:Bool) (c:Int) (h1 : -1 <= c) (h2:c <= 1000000) (d:Bool):(Cw.mk (w.aR ++ [⟨m,c,0⟩]) d).Fits (n + 1):=by
 have hb:=h.aR d;refine ⟨by have:=h.deep;show (w.aR ++ [_]).length <= n + 1;rw [lla,w.dD,List.length_singleton];omega,fun x hx=>?_⟩;rcases List.mem_append.1 hx with h3 | h3
 ·exact hb.parts x h3
 ·rw [List.mem_singleton.1 h3];exact ⟨Nat.zero_le _,h1,h2⟩
theorem Cw.Fits.bB {w:Cw} {n:Nat} (h:w.Fits n) (p:Part) (hp:Fine p):(w.bB p).2.2.Fits (n + 1):=by
 have h':=h.mono (Nat.le_succ n);unfold Cw.bB;split
 ·exact h'
 ·cases p with
  | close =>
   dsimp only
   unfold Cw.cD;split
   ·exact h'
   ·split
    ·exact h'
    ·exact h.dropped _
  | aG m c =>
   dsimp only
   split
   ·exact h'
   ·exact h.begun m c (hp.count m c rfl).1 (hp.count m c rfl).2 _
  | _ =>
   dsimp only
   split
   ·exact h'
   ·exact h.aR _
theorem Cw.Fits.pack {w:Cw} {n:Nat} (h:w.Fits n) (p:Part) (hp:Fine p):(w.pack p).2.2.Fits (n + 1):=by
 have h':=h.mono (Nat.le_succ n);unfold Cw.pack;split
 ·exact h'
 ·cases p with
  | close =>
   dsimp only
   unfold Cw.dF;split
   ·exact h'
   ·split
    ·exact h'
    ·exact h.dropped _
  | aG m c =>
   dsimp only
   split
   ·exact h'
   ·unfold Cw.rQ
    dsimp only
    split
    ·exact h'
    ·exact h.begun m c (hp.count m c rfl).1 (hp.count m c rfl).2 _
  | _ =>
   dsimp only
   split
   ·exact h'
   ·unfold Cw.rQ
    dsimp only
    split
    ·exact h'
    ·exact h.aR _
end Pip
end
end Go.Proofs.YtcjflgmcjfcodaaGreat
