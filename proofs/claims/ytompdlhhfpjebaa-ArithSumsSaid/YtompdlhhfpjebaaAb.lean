/- Walks of repartee/arith: do, Name, Apply. -/
import Derived.Test.YtompdlhhfpjebaaA
namespace Go.Proofs.Ytompdlhhfpjebaa
set_option linter.unusedVariables false
open Go.RowKit
open Fl (nanB canon qnan sg rg negW)

theorem idx1 (w : World) : (Instr.index 62 (.agg tableC) (.int .u8 1)).run Try.prog w = .ok (.agg #[.string { data := #[45] }, .func (.func 43) #[] #[]]) w := by kernel_rfl
theorem idx2 (w : World) : (Instr.index 62 (.agg tableC) (.int .u8 2)).run Try.prog w = .ok (.agg #[.string { data := #[43] }, .func (.func 44) #[] #[]]) w := by kernel_rfl
theorem idx3 (w : World) : (Instr.index 62 (.agg tableC) (.int .u8 3)).run Try.prog w = .ok (.agg #[.string { data := #[45] }, .func (.func 45) #[] #[]]) w := by kernel_rfl
theorem idx4 (w : World) : (Instr.index 62 (.agg tableC) (.int .u8 4)).run Try.prog w = .ok (.agg #[.string { data := #[42] }, .func (.func 46) #[] #[]]) w := by kernel_rfl
theorem idx5 (w : World) : (Instr.index 62 (.agg tableC) (.int .u8 5)).run Try.prog w = .ok (.agg #[.string { data := #[47] }, .func (.func 47) #[] #[]]) w := by kernel_rfl
theorem idx6 (w : World) : (Instr.index 62 (.agg tableC) (.int .u8 6)).run Try.prog w = .ok (.agg #[.string { data := #[109, 105, 110] }, .func (.func 48) #[] #[]]) w := by kernel_rfl
theorem idx7 (w : World) : (Instr.index 62 (.agg tableC) (.int .u8 7)).run Try.prog w = .ok (.agg #[.string { data := #[109, 97, 120] }, .func (.func 49) #[] #[]]) w := by kernel_rfl
theorem fld (s : ByteArray) (f : Nat) (w : World) : (Instr.field 61 (.agg #[.string s, .func (.func f) #[] #[]]) 1).run Try.prog w = .ok (.func (.func f) #[] #[]) w := by kernel_rfl
theorem do1 (x y : Nat) (w : World) : Calls Try.prog 34 #[.int .u8 1, .float .f64 x, .float .f64 y] w fun e w' => e = .returned (.float .f64 (opF 1 x y)) ∧ Grown w w' := by
  have hi := idx1
  have hf := fld
  go_enter Try.func34, Try.ntmps34
  go_wp2_with fail
  refine (table_calls _).mono ?_
  rintro e w1 ⟨rfl, hg1⟩
  go_wp2_with fail
  refine (tneg_calls _ _ _).mono ?_
  rintro e w2 ⟨b, rfl, hb, hg2⟩
  have HB := Lib.hid hb
  clear hb
  go_wp2_with fail
  refine (canon_calls _ _).mono ?_
  rintro e w3 ⟨rfl, rfl⟩
  go_wp2_with fail
  go_ret
  exact ⟨ret_flt HB.out, gtrans hg1 hg2⟩
theorem do2 (x y : Nat) (w : World) : Calls Try.prog 34 #[.int .u8 2, .float .f64 x, .float .f64 y] w fun e w' => e = .returned (.float .f64 (opF 2 x y)) ∧ Grown w w' := by
  have hi := idx2
  have hf := fld
  go_enter Try.func34, Try.ntmps34
  go_wp2_with fail
  refine (table_calls _).mono ?_
  rintro e w1 ⟨rfl, hg1⟩
  go_wp2_with fail
  refine (tadd_calls _ _ _).mono ?_
  rintro e w2 ⟨b, rfl, hb, hg2⟩
  have HB := Lib.hid hb
  clear hb
  go_wp2_with fail
  refine (canon_calls _ _).mono ?_
  rintro e w3 ⟨rfl, rfl⟩
  go_wp2_with fail
  go_ret
  exact ⟨ret_flt HB.out, gtrans hg1 hg2⟩
theorem do3 (x y : Nat) (w : World) : Calls Try.prog 34 #[.int .u8 3, .float .f64 x, .float .f64 y] w fun e w' => e = .returned (.float .f64 (opF 3 x y)) ∧ Grown w w' := by
  have hi := idx3
  have hf := fld
  go_enter Try.func34, Try.ntmps34
  go_wp2_with fail
  refine (table_calls _).mono ?_
  rintro e w1 ⟨rfl, hg1⟩
  go_wp2_with fail
  refine (tsub_calls _ _ _).mono ?_
  rintro e w2 ⟨b, rfl, hb, hg2⟩
  have HB := Lib.hid hb
  clear hb
  go_wp2_with fail
  refine (canon_calls _ _).mono ?_
  rintro e w3 ⟨rfl, rfl⟩
  go_wp2_with fail
  go_ret
  exact ⟨ret_flt HB.out, gtrans hg1 hg2⟩
theorem do4 (x y : Nat) (w : World) : Calls Try.prog 34 #[.int .u8 4, .float .f64 x, .float .f64 y] w fun e w' => e = .returned (.float .f64 (opF 4 x y)) ∧ Grown w w' := by
  have hi := idx4
  have hf := fld
  go_enter Try.func34, Try.ntmps34
  go_wp2_with fail
  refine (table_calls _).mono ?_
  rintro e w1 ⟨rfl, hg1⟩
  go_wp2_with fail
  refine (tmul_calls _ _ _).mono ?_
  rintro e w2 ⟨b, rfl, hb, hg2⟩
  have HB := Lib.hid hb
  clear hb
  go_wp2_with fail
  refine (canon_calls _ _).mono ?_
  rintro e w3 ⟨rfl, rfl⟩
  go_wp2_with fail
  go_ret
  exact ⟨ret_flt HB.out, gtrans hg1 hg2⟩
theorem do5 (x y : Nat) (w : World) : Calls Try.prog 34 #[.int .u8 5, .float .f64 x, .float .f64 y] w fun e w' => e = .returned (.float .f64 (opF 5 x y)) ∧ Grown w w' := by
  have hi := idx5
  have hf := fld
  go_enter Try.func34, Try.ntmps34
  go_wp2_with fail
  refine (table_calls _).mono ?_
  rintro e w1 ⟨rfl, hg1⟩
  go_wp2_with fail
  refine (tdiv_calls _ _ _).mono ?_
  rintro e w2 ⟨b, rfl, hb, hg2⟩
  have HB := Lib.hid hb
  clear hb
  go_wp2_with fail
  refine (canon_calls _ _).mono ?_
  rintro e w3 ⟨rfl, rfl⟩
  go_wp2_with fail
  go_ret
  exact ⟨ret_flt HB.out, gtrans hg1 hg2⟩
theorem do6 (x y : Nat) (hx : x < 2 ^ 64) (hy : y < 2 ^ 64) (w : World) : Calls Try.prog 34 #[.int .u8 6, .float .f64 x, .float .f64 y] w fun e w' => e = .returned (.float .f64 (opF 6 x y)) ∧ Grown w w' := by
  have hi := idx6
  have hf := fld
  have C := Lib.hid (fun w => least_calls x y hx hy w)
  clear hx hy
  go_enter Try.func34, Try.ntmps34
  go_wp2_with fail
  refine (table_calls _).mono ?_
  rintro e w1 ⟨rfl, hg1⟩
  go_wp2_with fail
  refine (C.out _).mono ?_
  rintro e w2 ⟨rfl, rfl⟩
  go_wp2_with fail
  refine (canon_calls _ _).mono ?_
  rintro e w3 ⟨rfl, rfl⟩
  go_wp2_with fail
  go_ret
  exact ⟨rfl, hg1⟩
theorem do7 (x y : Nat) (hx : x < 2 ^ 64) (hy : y < 2 ^ 64) (w : World) : Calls Try.prog 34 #[.int .u8 7, .float .f64 x, .float .f64 y] w fun e w' => e = .returned (.float .f64 (opF 7 x y)) ∧ Grown w w' := by
  have hi := idx7
  have hf := fld
  have C := Lib.hid (fun w => great_calls x y hx hy w)
  clear hx hy
  go_enter Try.func34, Try.ntmps34
  go_wp2_with fail
  refine (table_calls _).mono ?_
  rintro e w1 ⟨rfl, hg1⟩
  go_wp2_with fail
  refine (C.out _).mono ?_
  rintro e w2 ⟨rfl, rfl⟩
  go_wp2_with fail
  refine (canon_calls _ _).mono ?_
  rintro e w3 ⟨rfl, rfl⟩
  go_wp2_with fail
  go_ret
  exact ⟨rfl, hg1⟩
theorem do_calls (k : Int) (h1 : 1 ≤ k) (h7 : k ≤ 7) (x y : Nat) (hx : x < 2 ^ 64) (hy : y < 2 ^ 64) (w : World) :
    Calls Try.prog 34 #[.int .u8 k, .float .f64 x, .float .f64 y] w fun e w' => e = .returned (.float .f64 (opF k.toNat x y)) ∧ Grown w w' := by
  have h : k = 1 ∨ k = 2 ∨ k = 3 ∨ k = 4 ∨ k = 5 ∨ k = 6 ∨ k = 7 := by omega
  rcases h with rfl | rfl | rfl | rfl | rfl | rfl | rfl
  · exact do1 x y w
  · exact do2 x y w
  · exact do3 x y w
  · exact do4 x y w
  · exact do5 x y w
  · exact do6 x y hx hy w
  · exact do7 x y hx hy w

def nameS (k : Int) : ByteArray :=
  if k = 1 then { data := #[45] } else if k = 2 then { data := #[43] } else if k = 3 then { data := #[45] } else if k = 4 then { data := #[42] } else if k = 5 then { data := #[47] }
  else if k = 6 then { data := #[109, 105, 110] } else if k = 7 then { data := #[109, 97, 120] } else { data := #[] }
end Go.Proofs.Ytompdlhhfpjebaa
