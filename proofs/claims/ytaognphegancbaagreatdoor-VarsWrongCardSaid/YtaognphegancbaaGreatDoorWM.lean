/- vars: VarsWrong: the bad text of 513 zero bytes; what the odd list is. -/
import Derived.Test.YtaognphegancbaaGreatDoorWG
import Derived.Test.YtaognphegancbaaGreatDoorWL
import Derived.Laws.BytesArg
import Derived.Deep.OwnRows
namespace Go.Proofs.YtaognphegancbaaGreatDoor
set_option linter.unusedVariables false
set_option linter.unusedSimpArgs false
open Go.RowKit Go.Maps Go.WideMaps
theorem byteInfo : (Tryz.prog.info? 5).map (fun i => (i.zero, i.size, i.bytes)) = some (some (.int .u8 0), 1, 1) := by kernel_rfl
/-- The text of 513 zero bytes. -/
def zeros : ByteArray := strOfNums (List.replicate 513 0)
theorem zeros_size : zeros.size = 513 := by
  show (zeros.data).size = 513
  rw [← Array.length_toList, zeros, strOfNums_data, List.length_map, List.length_replicate]
def zeroRow : Array Value := madeCells #[.int .u8 0] 513
theorem make513 (w : World) : (Instr.makeSlice 22 (.int .i64 513) (.int .i64 513)).run Tryz.prog w = .ok (.slice (some ⟨w.heap.size, 0, none⟩) 513 513) (w.alloc (.cells zeroRow 5)) :=
  run_make_row' (P := Tryz.prog) 22 5 (.int .u8 0) 1 Tryz.underlying22 byteInfo rfl .i64 .i64 513 (by decide) (by decide) w
theorem conv513 (w : World) (b : Nat) (hb : w.heap[b]? = some (.cells zeroRow 5 (0, 0))) : (convert 22 9 (.slice (some ⟨b, 0, none⟩) 513 513)).run Tryz.prog w = .ok (.string zeros) w :=
  run_convert_bytes_arg (P := Tryz.prog) (w := w) 22 5 Tryz.underlying22 Tryz.underlying5 b 0 513 513 (List.replicate 513 0) (by rw [List.length_replicate]) (by
    intro i hi
    rw [Nat.zero_add, cell_of_row w b i _ _ _ hb]
    rw [← Array.getElem?_toList, zeroRow, toList_madeCells_one, List.getElem?_replicate, if_pos hi, List.getD_eq_getElem?_getD, List.getElem?_replicate, if_pos hi]
    rfl) 9 Tryz.underlying9
theorem right_zeros : rightB false zeros 0 = false := by
  unfold rightB
  rw [zeros_size]
  rfl
theorem right_x (bits : Nat) : rightB true ⟨#[120]⟩ bits = false := by
  simp only [rightB, if_true, Bool.and_eq_false_iff]
  exact .inr (by rw [Lib.toList_data]; decide)
theorem alloc_third (w : World) (a b c : Obj) : (((w.alloc a).alloc b).alloc c).heap[w.heap.size + 1 + 1]? = some c := by
  have := heap_alloc_new ((w.alloc a).alloc b) c
  simpa using this
theorem twice_ok {xs : List VarD} (x : VarD) (h : Mk 6 xs) : ∀ k y, k < 6 → (xs ++ [x])[k]? = some y → OkAt (xs ++ [x]) k y := by
  intro k y hk hy
  have hl := h.len
  rw [List.getElem?_append_left (by omega)] at hy
  obtain ⟨a, b, c⟩ := h.ok k y hy
  exact ⟨a, by rw [List.take_append_of_le_length (by omega)]; exact b, c⟩
theorem twice_at {xs : List VarD} (x : VarD) (h : Mk 6 xs) : (xs ++ [x])[6]? = some x := by
  have hl := h.len
  rw [List.getElem?_append_right (by omega), hl]
  rfl
theorem twice_dup {xs : List VarD} {x : VarD} (h : Mk 6 xs) {i : Nat} (hx : xs[i]? = some x) : hasName ((xs ++ [x]).take 6) x.name = true := by
  have hl := h.len
  rw [List.take_append_of_le_length (by omega), List.take_of_length_le (by omega)]
  exact List.any_eq_true.2 ⟨x, List.mem_of_getElem? hx, by simp⟩
theorem odd_ok {xs : List VarD} (h : Mk 6 xs) (i : Nat) (y : VarD) : ∀ k z, k < i → (xs.set i y)[k]? = some z → OkAt (xs.set i y) k z := by
  intro k z hk hz
  rw [List.getElem?_set_ne (by omega)] at hz
  obtain ⟨a, b, c⟩ := h.ok k z hz
  exact ⟨a, by rw [List.take_set_of_le (by omega)]; exact b, c⟩
theorem odd_dup {xs : List VarD} {x : VarD} (h : Mk 6 xs) {i : Nat} (hx : xs[i]? = some x) (y : VarD) : hasName ((xs.set i y).take i) x.name = false := by
  rw [List.take_set_of_le (by omega)]
  exact (h.ok i x hx).once
/-- The boxes of v, other and bad. -/
structure Boxes (W : World) (V O B : Nat) (x : VarD) (bt : ByteArray) (bf : Nat) : Prop where
  v0 : W.cell? ⟨V, 0, none⟩ = some (.string x.name)
  v1 : W.cell? ⟨V, 1, none⟩ = some (.bool x.num)
  v2 : W.cell? ⟨V, 2, none⟩ = some (.string x.text)
  v3 : W.cell? ⟨V, 3, none⟩ = some (.float .f64 x.flt)
  o0 : W.cell? ⟨O, 0, none⟩ = some (.bool (!x.num))
  o1 : W.cell? ⟨O, 1, none⟩ = some (.string ⟨#[]⟩)
  o2 : W.cell? ⟨O, 2, none⟩ = some (.float .f64 0)
  b0 : W.cell? ⟨B, 0, none⟩ = some (.bool x.num)
  b1 : W.cell? ⟨B, 1, none⟩ = some (.string bt)
  b2 : W.cell? ⟨B, 2, none⟩ = some (.float .f64 bf)
theorem Boxes.bel {W W' : World} {V O B : Nat} {x : VarD} {bt : ByteArray} {bf : Nat} (h : Boxes W V O B x bt bf) (hb : Below W.heap.size W W') : Boxes W' V O B x bt bf :=
  ⟨cell_bel hb h.v0, cell_bel hb h.v1, cell_bel hb h.v2, cell_bel hb h.v3, cell_bel hb h.o0, cell_bel hb h.o1, cell_bel hb h.o2, cell_bel hb h.b0, cell_bel hb h.b1, cell_bel hb h.b2⟩
theorem boxes_new (w : World) (x : VarD) (bt : ByteArray) (bf : Nat) (o : Obj) :
    Boxes ((((w.alloc (.cells #[.string x.name, .bool x.num, .string x.text, .float .f64 x.flt] 37)).alloc (.cells #[.bool (!x.num), .string ⟨#[]⟩, .float .f64 0] 35)).alloc o).alloc (.cells #[.bool x.num, .string bt, .float .f64 bf] 35)) w.heap.size (w.heap.size + 1) (w.heap.size + 1 + 1 + 1) x bt bf := by
  generalize hW : ((((w.alloc (.cells #[.string x.name, .bool x.num, .string x.text, .float .f64 x.flt] 37)).alloc (.cells #[.bool (!x.num), .string ⟨#[]⟩, .float .f64 0] 35)).alloc o).alloc (.cells #[.bool x.num, .string bt, .float .f64 bf] 35)) = W
  have h0 : W.heap[w.heap.size]? = some (.cells #[.string x.name, .bool x.num, .string x.text, .float .f64 x.flt] 37 (0, 0)) := by
    rw [← hW, Below.heap_alloc _ _ _ (by simp; omega), Below.heap_alloc _ _ _ (by simp; omega), Below.heap_alloc _ _ _ (by simp)]
    exact heap_alloc_new _ _
  have h1 : W.heap[w.heap.size + 1]? = some (.cells #[.bool (!x.num), .string ⟨#[]⟩, .float .f64 0] 35 (0, 0)) := by
    rw [← hW, Below.heap_alloc _ _ _ (by simp), Below.heap_alloc _ _ _ (by simp)]
    have := heap_alloc_new (w.alloc (.cells #[.string x.name, .bool x.num, .string x.text, .float .f64 x.flt] 37)) (.cells #[.bool (!x.num), .string ⟨#[]⟩, .float .f64 0] 35)
    simpa using this
  have h3 : W.heap[w.heap.size + 1 + 1 + 1]? = some (.cells #[.bool x.num, .string bt, .float .f64 bf] 35 (0, 0)) := by
    rw [← hW]
    exact alloc_third (w.alloc _) _ _ _ |> fun h => by simpa using h
  exact ⟨by simpa using cell_of_row W _ 0 _ _ _ h0, by simpa using cell_of_row W _ 1 _ _ _ h0, by simpa using cell_of_row W _ 2 _ _ _ h0, by simpa using cell_of_row W _ 3 _ _ _ h0, by simpa using cell_of_row W _ 0 _ _ _ h1, by simpa using cell_of_row W _ 1 _ _ _ h1, by simpa using cell_of_row W _ 2 _ _ _ h1, by simpa using cell_of_row W _ 0 _ _ _ h3, by simpa using cell_of_row W _ 1 _ _ _ h3, by simpa using cell_of_row W _ 2 _ _ _ h3⟩
theorem four_bel (w : World) (a b c d : Obj) : Below w.heap.size w ((((w.alloc a).alloc b).alloc c).alloc d) :=
  ((((Below.refl _ w).alloc (Nat.le_refl _) _).alloc (by simp) _).alloc (by simp; omega) _).alloc (by simp; omega) _
end Go.Proofs.YtaognphegancbaaGreatDoor
