/- Walks of repartee/arith: Name, Apply. -/
import Derived.Test.YtompdlhhfpjebaaAb
namespace Go.Proofs.Ytompdlhhfpjebaa
set_option linter.unusedVariables false
open Go.RowKit
open Fl (nanB canon qnan sg rg negW)
theorem tab_store (w : World) (c : Array Value) (hc : c.size = 16) : (storeCells ⟨w.heap.size, 0, none⟩ tableC.toList).run Try.prog (w.alloc (.cells c 62)) = .ok () (w.alloc (.cells tableC 62)) :=
  run_storeCells_new (P := Try.prog) w 62 c tableC (by kernel_rfl) (by rw [hc]; rfl) (by decide +kernel)
theorem name0 (w : World) : Calls Try.prog 13 #[.int .u8 0] w fun e w' => e = .returned (.string { data := #[] }) ∧ Grown w w' := by
  have hst := tab_store
  have hsz : tableC.size = 16 := rfl
  go_enter Try.func13, Try.ntmps13
  go_wp2_with fail
  refine (table_calls _).mono ?_
  rintro e w1 ⟨rfl, hg1⟩
  go_wp2_with fail
  go_ret
  exact ⟨rfl, by go_grown⟩
theorem name1 (w : World) : Calls Try.prog 13 #[.int .u8 1] w fun e w' => e = .returned (.string { data := #[45] }) ∧ Grown w w' := by
  have hst := tab_store
  have hsz : tableC.size = 16 := rfl
  go_enter Try.func13, Try.ntmps13
  go_wp2_with fail
  refine (table_calls _).mono ?_
  rintro e w1 ⟨rfl, hg1⟩
  go_wp2_with fail
  go_ret
  exact ⟨rfl, by go_grown⟩
theorem name2 (w : World) : Calls Try.prog 13 #[.int .u8 2] w fun e w' => e = .returned (.string { data := #[43] }) ∧ Grown w w' := by
  have hst := tab_store
  have hsz : tableC.size = 16 := rfl
  go_enter Try.func13, Try.ntmps13
  go_wp2_with fail
  refine (table_calls _).mono ?_
  rintro e w1 ⟨rfl, hg1⟩
  go_wp2_with fail
  go_ret
  exact ⟨rfl, by go_grown⟩
theorem name3 (w : World) : Calls Try.prog 13 #[.int .u8 3] w fun e w' => e = .returned (.string { data := #[45] }) ∧ Grown w w' := by
  have hst := tab_store
  have hsz : tableC.size = 16 := rfl
  go_enter Try.func13, Try.ntmps13
  go_wp2_with fail
  refine (table_calls _).mono ?_
  rintro e w1 ⟨rfl, hg1⟩
  go_wp2_with fail
  go_ret
  exact ⟨rfl, by go_grown⟩
theorem name4 (w : World) : Calls Try.prog 13 #[.int .u8 4] w fun e w' => e = .returned (.string { data := #[42] }) ∧ Grown w w' := by
  have hst := tab_store
  have hsz : tableC.size = 16 := rfl
  go_enter Try.func13, Try.ntmps13
  go_wp2_with fail
  refine (table_calls _).mono ?_
  rintro e w1 ⟨rfl, hg1⟩
  go_wp2_with fail
  go_ret
  exact ⟨rfl, by go_grown⟩
theorem name5 (w : World) : Calls Try.prog 13 #[.int .u8 5] w fun e w' => e = .returned (.string { data := #[47] }) ∧ Grown w w' := by
  have hst := tab_store
  have hsz : tableC.size = 16 := rfl
  go_enter Try.func13, Try.ntmps13
  go_wp2_with fail
  refine (table_calls _).mono ?_
  rintro e w1 ⟨rfl, hg1⟩
  go_wp2_with fail
  go_ret
  exact ⟨rfl, by go_grown⟩
theorem name6 (w : World) : Calls Try.prog 13 #[.int .u8 6] w fun e w' => e = .returned (.string { data := #[109, 105, 110] }) ∧ Grown w w' := by
  have hst := tab_store
  have hsz : tableC.size = 16 := rfl
  go_enter Try.func13, Try.ntmps13
  go_wp2_with fail
  refine (table_calls _).mono ?_
  rintro e w1 ⟨rfl, hg1⟩
  go_wp2_with fail
  go_ret
  exact ⟨rfl, by go_grown⟩
theorem name7 (w : World) : Calls Try.prog 13 #[.int .u8 7] w fun e w' => e = .returned (.string { data := #[109, 97, 120] }) ∧ Grown w w' := by
  have hst := tab_store
  have hsz : tableC.size = 16 := rfl
  go_enter Try.func13, Try.ntmps13
  go_wp2_with fail
  refine (table_calls _).mono ?_
  rintro e w1 ⟨rfl, hg1⟩
  go_wp2_with fail
  go_ret
  exact ⟨rfl, by go_grown⟩
theorem name8 (k : Int) (h8 : 8 ≤ k) (hk : k ≤ 255) (w : World) : Calls Try.prog 13 #[.int .u8 k] w fun e w' => e = .returned (.string { data := #[] }) ∧ Grown w w' := by
  have hst := tab_store
  have hsz : tableC.size = 16 := rfl
  go_enter Try.func13, Try.ntmps13
  go_wp2_with fail
  refine (table_calls _).mono ?_
  rintro e w1 ⟨rfl, hg1⟩
  go_wp2_with fail
  go_ret
  exact ⟨rfl, by go_grown⟩
theorem name_no (k : Int) (h0 : k = 0 ∨ (8 ≤ k ∧ k ≤ 255)) (w : World) : Calls Try.prog 13 #[.int .u8 k] w fun e w' => e = .returned (.string { data := #[] }) ∧ Grown w w' := by
  rcases h0 with rfl | ⟨a, b⟩
  · exact name0 w
  · exact name8 k a b w
def SomeName (w : World) (e : Ending) (w' : World) : Prop := ∃ s : ByteArray, e = .returned (.string s) ∧ s.toList.isEmpty = false ∧ Grown w w'
theorem name_yes (k : Int) (h1 : 1 ≤ k) (h7 : k ≤ 7) (w : World) : Calls Try.prog 13 #[.int .u8 k] w (SomeName w) := by
  have h : k = 1 ∨ k = 2 ∨ k = 3 ∨ k = 4 ∨ k = 5 ∨ k = 6 ∨ k = 7 := by omega
  rcases h with rfl | rfl | rfl | rfl | rfl | rfl | rfl
  · exact (name1 w).mono fun _ _ h => ⟨_, h.1, by decide +kernel, h.2⟩
  · exact (name2 w).mono fun _ _ h => ⟨_, h.1, by decide +kernel, h.2⟩
  · exact (name3 w).mono fun _ _ h => ⟨_, h.1, by decide +kernel, h.2⟩
  · exact (name4 w).mono fun _ _ h => ⟨_, h.1, by decide +kernel, h.2⟩
  · exact (name5 w).mono fun _ _ h => ⟨_, h.1, by decide +kernel, h.2⟩
  · exact (name6 w).mono fun _ _ h => ⟨_, h.1, by decide +kernel, h.2⟩
  · exact (name7 w).mono fun _ _ h => ⟨_, h.1, by decide +kernel, h.2⟩

theorem apply_yes (k : Int) (h1 : 1 ≤ k) (h7 : k ≤ 7) (x y : Nat) (hx : x < 2 ^ 64) (hy : y < 2 ^ 64) (w : World) :
    Calls Try.prog 12 #[.int .u8 k, .float .f64 x, .float .f64 y] w fun e w' => e = .returned (.tuple #[.float .f64 (opF k.toNat x y), .int .i64 0]) ∧ Grown w w' := by
  have C := Lib.hid (fun w => do_calls k h1 h7 x y hx hy w)
  have D := Lib.hid (fun w => name_yes k h1 h7 w)
  clear hx hy h1 h7
  go_enter Try.func12, Try.ntmps12
  go_wp2_with fail
  refine (D.out _).mono ?_
  rintro e w1 ⟨s, rfl, hs, hg1⟩
  go_wp2_with fail
  refine (C.out _).mono ?_
  rintro e w2 ⟨rfl, hg2⟩
  go_wp2_with fail
  go_ret2
  exact ⟨rfl, gtrans hg1 hg2⟩
theorem apply_no (k : Int) (h0 : k = 0 ∨ (8 ≤ k ∧ k ≤ 255)) (x y : Nat) (w : World) :
    Calls Try.prog 12 #[.int .u8 k, .float .f64 x, .float .f64 y] w fun e w' => e = .returned (.tuple #[.float .f64 0, .int .i64 2]) ∧ Grown w w' := by
  have D := Lib.hid (fun w => name_no k h0 w)
  clear h0
  go_enter Try.func12, Try.ntmps12
  go_wp2_with fail
  refine (D.out _).mono ?_
  rintro e w1 ⟨rfl, hg1⟩
  go_wp2_with fail
  go_ret2
  exact ⟨rfl, hg1⟩
/-- The law's own do. -/
theorem ldo_calls (k : Int) (h1 : 1 ≤ k) (h7 : k ≤ 7) (x y : Nat) (hx : x < 2 ^ 64) (hy : y < 2 ^ 64) (w : World) :
    Calls Try.prog 10 #[.int .u8 k, .float .f64 x, .float .f64 y] w fun e w' => e = .returned (.float .f64 (opF k.toNat x y)) ∧ Grown w w' := by
  have C := Lib.hid (fun w => apply_yes k h1 h7 x y hx hy w)
  clear hx hy h1 h7
  go_enter Try.func10, Try.ntmps10
  go_wp2_with fail
  refine (C.out _).mono ?_
  rintro e w1 ⟨rfl, hg1⟩
  go_wp2_with fail
  go_ret
  exact ⟨rfl, hg1⟩
/-- reparteekit.SameFloat. -/
def sameF (x y : Nat) : Bool := x == y || nanB x && nanB y
theorem samef_calls (x y : Nat) (w : World) : Calls Try.prog 33 #[.float .f64 x, .float .f64 y] w fun e w' => e = .returned (.bool (sameF x y)) ∧ w = w' := by
  unfold sameF
  by_cases he : x = y
  · have h0 : ((x : Int) == (y : Int)) = true := by rw [cast_beq]; simpa using he
    have h0' : (x == y) = true := by simpa using he
    rw [h0']
    clear he h0'
    go_enter Try.func33, Try.ntmps33
    go_wp2
    go_ret
    exact ⟨rfl, rfl⟩
  · have h0 : ((x : Int) == (y : Int)) = false := by rw [cast_beq]; simpa using he
    have h0' : (x == y) = false := by simpa using he
    rw [h0']
    clear he h0'
    cases hn : nanB x
    · have h : (FloatKind.f64.format.order x x != some .eq) = false := hn
      clear hn
      go_enter Try.func33, Try.ntmps33
      go_wp2
      go_ret
      exact ⟨rfl, rfl⟩
    · have h : (FloatKind.f64.format.order x x != some .eq) = true := hn
      clear hn
      cases hm : nanB y
      · have h2 : (FloatKind.f64.format.order y y != some .eq) = false := hm
        clear hm
        go_enter Try.func33, Try.ntmps33
        go_wp2
        go_ret
        exact ⟨rfl, rfl⟩
      · have h2 : (FloatKind.f64.format.order y y != some .eq) = true := hm
        clear hm
        go_enter Try.func33, Try.ntmps33
        go_wp2
        go_ret
        exact ⟨rfl, rfl⟩
theorem is_calls (k : Int) (h1 : 1 ≤ k) (h7 : k ≤ 7) (x y z : Nat) (hx : x < 2 ^ 64) (hy : y < 2 ^ 64) (w : World) :
    Calls Try.prog 31 #[.int .u8 k, .float .f64 x, .float .f64 y, .float .f64 z] w fun e w' => e = .returned (.bool (sameF (opF k.toNat x y) z)) ∧ Grown w w' := by
  have C := Lib.hid (fun w => apply_yes k h1 h7 x y hx hy w)
  clear hx hy h1 h7
  go_enter Try.func31, Try.ntmps31
  go_wp2_with fail
  refine (C.out _).mono ?_
  rintro e w1 ⟨rfl, hg1⟩
  go_wp2_with fail
  refine (samef_calls _ _ _).mono ?_
  rintro e w2 ⟨rfl, rfl⟩
  go_wp2_with fail
  go_ret
  exact ⟨rfl, hg1⟩
end Go.Proofs.Ytompdlhhfpjebaa
