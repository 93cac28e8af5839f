/- Texts of the walk, joined. -/
import Derived.Test.YtcjflgmcjfcodaaGreatM01
import Derived.Deep.QuietTactic
import Derived.Laws.ResultCell
import Derived.Lib.Hide
import Derived.OpenShut
import Derived.Test.YtcjflgmcjfcodaaGreatProg
set_option maxRecDepth 100000
set_option maxHeartbeats 8000000
namespace Go.Proofs.Tryz end Go.Proofs.Tryz
namespace Go.Proofs.YtcjflgmcjfcodaaGreat
open Go.Proofs.Tryz
section
open Go.RowKit
namespace Json
def Part.val:Part -> Value
 | .null=>.nilIface
 | .bool b=>.iface 4 (.bool b)
 | .whole n m=>.iface 208 (.agg #[.bool n,.int .u64 (m:Int)])
 | .word s=>.iface 231 (.string s)
 | .cW s=>.iface 235 (.string s)
 | .aG m c=>.iface 218 (.agg #[.bool m,.int .i64 c])
 | .close=>.iface 221 (.agg #[])
 | .other false=>.iface 3 (.int .i64 5)
 | .other true=>.iface 9 (.string ⟨#[110,111,32,112,97,114,116]⟩)
def Evt.cells (e:Evt):List Value:=[.int .i64 e.kind,.bool e.yes,.int .u64 (e.mag:Int),.string e.text,.int .i64 e.count]
def Evt.val (e:Evt):Value:=.agg e.cells.toArray
def Part.small:Part -> Prop
 | .whole _ m=>m < 18446744073709551616
 | .word s=>s.size <= 1000
 | .cW s=>s.size <= 1000
 | _=>True
def Part.isBool:Part -> Bool
 | .bool _=>true
 | _=>false
def Part.inBool:Part -> Value
 | .bool b=>.bool b
 | _=>.bool false
theorem asBool (p:Part) (W:World):(Instr.typeAssert p.val 20 4 true).run prog W = .ok (.tuple #[p.inBool,.bool p.isBool]) W:=by
 cases p with
 | other b=>cases b <;> kernel_rfl
 | _=>kernel_rfl
def Part.isWhole:Part -> Bool
 | .whole _ _=>true
 | _=>false
def Part.inWhole:Part -> Value
 | .whole n m=>.agg #[.bool n,.int .u64 (m:Int)]
 | _=>.agg #[.bool false,.int .u64 0]
theorem mR (p:Part) (W:World):(Instr.typeAssert p.val 20 208 true).run prog W = .ok (.tuple #[p.inWhole,.bool p.isWhole]) W:=by
 cases p with
 | other b=>cases b <;> kernel_rfl
 | _=>kernel_rfl
def Part.inWord:Part -> Value
 | .word s=>.string s
 | _=>.string ⟨#[]⟩
theorem jA (p:Part) (W:World):(Instr.typeAssert p.val 20 231 true).run prog W = .ok (.tuple #[p.inWord,.bool p.isWord]) W:=by
 cases p with
 | other b=>cases b <;> kernel_rfl
 | _=>kernel_rfl
def Part.isBlob:Part -> Bool
 | .cW _=>true
 | _=>false
def Part.inBlob:Part -> Value
 | .cW s=>.string s
 | _=>.string ⟨#[]⟩
theorem rW (p:Part) (W:World):(Instr.typeAssert p.val 20 235 true).run prog W = .ok (.tuple #[p.inBlob,.bool p.isBlob]) W:=by
 cases p with
 | other b=>cases b <;> kernel_rfl
 | _=>kernel_rfl
def Part.isClose:Part -> Bool
 | .close=>true
 | _=>false
def Part.inClose:Part -> Value:=fun _=>.agg #[]
theorem eK (p:Part) (W:World):(Instr.typeAssert p.val 20 221 true).run prog W = .ok (.tuple #[p.inClose,.bool p.isClose]) W:=by
 cases p with
 | other b=>cases b <;> kernel_rfl
 | _=>kernel_rfl
def Part.isBegin:Part -> Bool
 | .aG _ _=>true
 | _=>false
def Part.inBegin:Part -> Value
 | .aG m c=>.agg #[.bool m,.int .i64 c]
 | _=>.agg #[.bool false,.int .i64 0]
theorem eP (p:Part) (W:World):(Instr.typeAssert p.val 20 218 true).run prog W = .ok (.tuple #[p.inBegin,.bool p.isBegin]) W:=by
 cases p with
 | other b=>cases b <;> kernel_rfl
 | _=>kernel_rfl
def Part.isNull:Part -> Bool
 | .null=>true
 | _=>false
theorem aLy (p:Part) (W:World):(binOp .eql 20 p.val .nilIface).run prog W = .ok (.bool p.isNull) W:=by
 cases p with
 | other b=>cases b <;> kernel_rfl
 | _=>kernel_rfl
theorem eqG (k:Nat) (p:Part) (W:World):(eqGuard .eql 20 (.tmp k) (.const .nilIface) p.val .nilIface).run prog W = .ok () W:=by
 cases p with
 | other b=>cases b <;> kernel_rfl
 | _=>kernel_rfl
def fB (p:Part):Value:=if p.may then .tuple #[p.evt.val,.bool true] else .tuple #[Evt.zero.val,.bool false]
theorem size_alloc (w:World) (o:Obj):(w.alloc o).heap.size=w.heap.size + 1:=by
 show (w.heap.push o).size=_;simp
theorem rC {B:Nat} {a w:World} (h:Below B a w /\ B <= w.heap.size) (o:Obj):Below B a (w.alloc o) /\ B <= (w.alloc o).heap.size :=
 ⟨h.1.alloc h.2 o,by rw [size_alloc];omega⟩
theorem aM0 {fn : Func} {p u : Tmp} {ty : TypeId} (h : fn.results = #[.cell p ty, .tmp u]) (tmps : Array Value) {P : Program} (w : World) (b : Nat) (v : Value)
  (hp:tmps.getD p undef = .pointer (some ⟨b,0,none⟩)) (hl:(loadVar ty ⟨b,0,none⟩).run P w = .ok v w) :
  (results fn tmps).run P w = .ok (.tuple #[v,tmps.getD u undef]) w:=by
 rw [results_cell_tmp h,hp];simp [asAddr,Result.andThen,hl]
theorem dR (p:Part) (w:World):Calls prog 121 #[p.val] w fun r w'=>r = .returned (fB p) /\ Below w.heap.size w w':=by
 have a0:=aLy p;have g0:=fun o=>eqG o p
 have a1:=asBool p;have a2:=mR p;have a3:=jA p;have a4:=rW p;have a5:=eK p;have a6:=eP p;obtain ⟨V,hV⟩:∃ V,V=p.val:=⟨_,rfl⟩;rw [<- hV] at a0 g0 a1 a2 a3 a4 a5 a6 |-;clear hV
 have fin : ∀ (tmps : Array Value) (df : List Deferred) (W : World) (cs : Array Value) (y : Bool), tmps.getD 2 undef = .pointer (some ⟨w.heap.size, 0, none⟩) → tmps.getD 3 undef = .bool y →
   (Below (w.heap.size + 1) (w.alloc (.cells cs 214)) W /\ w.heap.size + 1 <= W.heap.size) -> cs.size=5 -> df=[] -> fB p = .tuple #[.agg cs,.bool y] ->
   bodyPost prog Tryz.f121 (fun r w'=>r = .returned (fB p) /\ Below w.heap.size w w') Exit.ret ⟨tmps,df⟩ W:=by
  intro tmps df W cs y h1 h2 ⟨hB,_⟩ hs hd hp;subst hd;have hg:W.heap[w.heap.size]? = some (.cells cs 214 (0,0)):=by rw [hB.block _ (by omega)];exact heap_alloc_new _ _
  have hb:Below w.heap.size w W:=((Below.refl w.heap.size w).alloc (Nat.le_refl _) _).trans ⟨hB.os,hB.tape,hB.output,hB.size,fun k hk=>hB.block k (by omega)⟩;refine bodyPost_ret (aM0 rfl _ _ _ (.agg cs) h1 (run_loadVar_row W _ 214 214 cs (0,0) _ hg underlying214 rfl (by rw [hs];kernel_rfl))) rfl ?_;rw [h2];exact ⟨by rw [hp],hb⟩
 have Fin:=hhh fin;clear fin
 cases p with
 | aG m c =>
  have HP:=hhh (show (c < -1 -> fB (.aG m c) = .tuple #[Evt.zero.val,.bool false]) /\ (¬c < -1 -> fB (.aG m c) = .tuple #[(Part.aG m c).evt.val,.bool true]) from
   ⟨fun h=>by unfold fB;rw [ifn (by simp [Part.may];omega)],fun h=>by unfold fB;rw [ifp (by simp [Part.may];omega)]⟩)
  by_cases hc:c < -1
  all_goals cases m
  all_goals simp only [Part.isNull,Part.isBool,Part.inBool,Part.isWhole,Part.inWhole,Part.isWord,Part.inWord,Part.isBlob,Part.inBlob,Part.isClose,Part.inClose,Part.isBegin,Part.inBegin] at a0 a1 a2 a3 a4 a5 a6
  all_goals go_enter func121,ntmps121
  all_goals go_wp2
  all_goals
   first
    | refine Fin.o _ _ _ Evt.zero.cells.toArray _ rfl rfl ?_ rfl rfl (HP.o.1 hc)
    | refine Fin.o _ _ _ (Part.evt (.aG _ c)).cells.toArray _ rfl rfl ?_ rfl rfl (HP.o.2 hc)
   repeat' first | exact ⟨Below.refl _ _,Nat.le_of_eq (size_alloc _ _).symm⟩ | apply rC
 | _ =>
  simp only [Part.isNull,Part.isBool,Part.inBool,Part.isWhole,Part.inWhole,Part.isWord,Part.inWord,Part.isBlob,Part.inBlob,Part.isClose,Part.inClose,Part.isBegin,Part.inBegin] at a0 a1 a2 a3 a4 a5 a6;go_enter func121,ntmps121;go_wp2;refine Fin.o _ _ _ _ _ rfl rfl ?_ rfl rfl rfl
  repeat' first | exact ⟨Below.refl _ _,Nat.le_of_eq (size_alloc _ _).symm⟩ | apply rC
end Json
end
end Go.Proofs.YtcjflgmcjfcodaaGreat
