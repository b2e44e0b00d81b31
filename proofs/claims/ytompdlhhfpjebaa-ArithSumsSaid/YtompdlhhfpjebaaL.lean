/- The contract of repartee/arith.laws: the slice of the laws. -/
import Derived.Test.YtompdlhhfpjebaaW
import Derived.Deep.WholeRow
import Derived.Great.BuildSlice
import Derived.StillTailTactics
namespace Go.Proofs.Ytompdlhhfpjebaa
set_option linter.unusedVariables false
open Go.RowKit
open Fl (nanB canon qnan sg rg negW)
theorem infmul (w : World) : (binOp .mul 24 (.float .f64 7598952565167317594) (.float .f64 7598952565167317594)).run Try.prog w = .ok (.float .f64 9218868437227405312) w :=
  run_float_arith (P := Try.prog) w .mul 24 .f64 7598952565167317594 7598952565167317594 9218868437227405312 (by decide +kernel)
theorem wpList_buildSliceBy {P : Program} {ops : Array Oper} {rest : List Oper} {o : Oper} {a : Act} {w : World} {Q : Exit → Act → World → Prop} (hg : o.guard = none) (t e : TypeId) (len : Nat) (parts : Array (Nat × Operand)) (ho : o.op = .buildSlice t len parts)
    (cells : Array Value) (z : Value) (n : Nat)
    (hu : P.underlying t = some (.slice e)) (hie : (P.info? e).map (fun i => (i.zero, i.size)) = some (some z, n)) (hsmall : ¬ len * n > 2 ^ 24) (hpos : ¬ len * n = 0)
    (hf : Instr.fill (fun i => some (i * n, n)) ((Array.range (len * n)).map (z.cells[· % z.cells.size]!)) (parts.map fun (i, x) => (i, a.eval x)).toList = some cells)
    (h : wpList P ops Q rest (a.put o.dst (.slice (some ⟨w.heap.size, 0, none⟩) len len)) (w.alloc (.cells cells e))) : wpList P ops Q (o :: rest) a w := by
  cases hq : P.info? e with
  | none => simp [hq] at hie
  | some i =>
    simp [hq] at hie
    obtain ⟨h1, rfl⟩ := hie
    exact wpList_buildSlice hg t e len parts ho cells i z hu hq h1 hsmall hpos hf h
/-- The cells of the laws; the captured variables lie in the blocks from b on: inf, a, s, m, d, n. -/
def lawCells (b : Nat) : Array Value := #[
  .func (.func 55) #[] #[.pointer (some ⟨b + 1, 0, none⟩)], .bool true, .float .f64 0, .float .f64 0, .float .f64 0,
  .func (.func 56) #[] #[.pointer (some ⟨b + 3, 0, none⟩)], .bool true, .float .f64 0, .float .f64 0, .float .f64 0,
  .func (.func 57) #[] #[], .bool true, .float .f64 0, .float .f64 0, .float .f64 0,
  .func (.func 58) #[] #[], .bool true, .float .f64 0, .float .f64 0, .float .f64 0,
  .func (.func 59) #[] #[.pointer (some ⟨b + 3, 0, none⟩)], .bool true, .float .f64 0, .float .f64 0, .float .f64 0,
  .func (.func 60) #[] #[.pointer (some ⟨b + 4, 0, none⟩)], .bool true, .float .f64 0, .float .f64 0, .float .f64 0,
  .func (.func 61) #[] #[.pointer (some ⟨b + 2, 0, none⟩)], .bool true, .float .f64 0, .float .f64 0, .float .f64 0,
  .func (.func 62) #[] #[.pointer (some ⟨b + 1, 0, none⟩)], .bool true, .float .f64 0, .float .f64 0, .float .f64 0,
  .func (.func 63) #[] #[.pointer (some ⟨b + 5, 0, none⟩)], .bool true, .float .f64 0, .float .f64 0, .float .f64 0,
  .func (.func 64) #[] #[.pointer (some ⟨b + 2, 0, none⟩), .pointer (some ⟨b + 1, 0, none⟩), .pointer (some ⟨b + 5, 0, none⟩)], .bool true, .float .f64 0, .float .f64 0, .float .f64 0,
  .func (.func 65) #[] #[], .bool true, .float .f64 0, .float .f64 0, .float .f64 0,
  .func (.func 66) #[] #[.pointer (some ⟨b + 5, 0, none⟩), .pointer (some ⟨b + 2, 0, none⟩)], .bool false, .float .f64 4607182418800017408, .float .f64 4607182418800017408, .float .f64 0,
  .func (.func 67) #[] #[.pointer (some ⟨b + 2, 0, none⟩)], .bool false, .float .f64 9218868437227405312, .float .f64 0, .float .f64 0,
  .func (.func 68) #[] #[.pointer (some ⟨b + 3, 0, none⟩)], .bool false, .float .f64 13830554455654793216, .float .f64 0, .float .f64 0,
  .func (.func 69) #[] #[.pointer (some ⟨b + 1, 0, none⟩)], .bool false, .float .f64 4607182418800017408, .float .f64 13830554455654793216, .float .f64 1,
  .func (.func 70) #[] #[.pointer (some ⟨b + 3, 0, none⟩)], .bool false, .float .f64 7598952565167317594, .float .f64 7598952565167317594, .float .f64 1614679632300144556,
  .func (.func 71) #[] #[.pointer (some ⟨b + 3, 0, none⟩), .pointer (some ⟨b + 1, 0, none⟩)], .bool false, .float .f64 7598952565167317594, .float .f64 7598952565167317594, .float .f64 16822324602022093402,
  .func (.func 72) #[] #[.pointer (some ⟨b + 2, 0, none⟩), .pointer (some ⟨b + 1, 0, none⟩)], .bool false, .float .f64 1, .float .f64 4607182418800017408, .float .f64 0,
  .func (.func 73) #[] #[.pointer (some ⟨b + 4, 0, none⟩)], .bool false, .float .f64 0, .float .f64 0, .float .f64 0,
  .func (.func 74) #[] #[.pointer (some ⟨b + 1, 0, none⟩)], .bool false, .float .f64 9223372036854775808, .float .f64 0, .float .f64 0,
  .func (.func 75) #[] #[.pointer (some ⟨b + 4, 0, none⟩), .pointer (some ⟨b + 3, 0, none⟩)], .bool false, .float .f64 4607182418800017408, .float .f64 0, .float .f64 0,
  .func (.func 76) #[] #[.pointer (some ⟨b + 0, 0, none⟩)], .bool true, .float .f64 0, .float .f64 0, .float .f64 0,
  .func (.func 77) #[] #[.pointer (some ⟨b + 3, 0, none⟩), .pointer (some ⟨b + 5, 0, none⟩)], .bool true, .float .f64 0, .float .f64 0, .float .f64 0,
  .func (.func 78) #[] #[.pointer (some ⟨b + 4, 0, none⟩), .pointer (some ⟨b + 3, 0, none⟩)], .bool false, .float .f64 1, .float .f64 1, .float .f64 0]
def lawBase (w : World) : World := ((((((w.alloc (Obj.cells #[Value.float FloatKind.f64 9218868437227405312] 24)).alloc (Obj.cells #[Value.func (Fn.func 50) #[] #[]] 56)).alloc
   (Obj.cells #[Value.func (Fn.func 51) #[] #[]] 56)).alloc (Obj.cells #[Value.func (Fn.func 52) #[] #[]] 56)).alloc
   (Obj.cells #[Value.func (Fn.func 53) #[] #[]] 56)).alloc (Obj.cells #[Value.func (Fn.func 54) #[] #[]] 50))
theorem lawBase_size (w : World) : (lawBase w).heap.size = w.heap.size + 6 := by unfold lawBase; simp
theorem lawBase_cell (w : World) : (lawBase w).cell? ⟨w.heap.size, 0, none⟩ = some (.float .f64 9218868437227405312) := by
  unfold lawBase; go_simp
def lawWorld (w : World) : World := (lawBase w).drew.alloc (.cells (lawCells w.heap.size) 68)
set_option maxHeartbeats 8000000 in
set_option maxRecDepth 100000 in
theorem laws_calls (w : World) : Calls Try.prog 36 #[] w fun e w' => e = .returned (.slice (some ⟨w.heap.size + 6, 0, none⟩) 24 24) ∧ w' = lawWorld w := by
  have hi := infmul
  unfold lawWorld
  go_enter Try.func36, Try.ntmps36
  go_wp2_with fail
  change Code.wp _ _ _ _ (lawBase w)
  have hc := lawBase_cell w
  have hz := lawBase_size w
  generalize hWW : lawBase w = W at hc hz ⊢
  have HZ := Lib.hid hz
  have HWW := Lib.hid hWW
  clear hz hi hWW
  refine wp_region_still_tail 71 (by kernel_rfl) (by kernel_rfl) ?_
  simp only [List.append, List.take_succ_cons, List.take_zero, List.drop_succ_cons, List.drop_zero, World.drew_eq]
  have hc2 : W.drew.cell? ⟨w.heap.size, 0, none⟩ = some (.float .f64 9218868437227405312) := hc
  have HZ2 : Hid (W.drew.heap.size = w.heap.size + 6) := HZ
  clear hc
  generalize hW2 : W.drew = W2 at hc2 HZ2 ⊢
  have HW2 := Lib.hid hW2
  clear hW2
  repeat still_step
  still_call ((zero_calls _).mono fun _ _ h => ⟨h.1, h.2.symm⟩)
  repeat still_step
  refine wpStill_nil ?_
  clear hc2
  refine wpList_buildSliceBy rfl 69 68 24 _ rfl (lawCells w.heap.size) (.agg #[.nilFunc, .bool false, .float .f64 0, .float .f64 0, .float .f64 0]) 5 (by kernel_rfl) (by kernel_rfl) (by decide) (by decide) (by kernel_rfl) ?_
  rw [HZ2.out]
  go_wp2
  go_ret
  exact ⟨rfl, by rw [← HW2.out, ← HWW.out]⟩
end Go.Proofs.Ytompdlhhfpjebaa
