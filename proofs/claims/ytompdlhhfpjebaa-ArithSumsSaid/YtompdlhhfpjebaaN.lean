/- Walks: the laws by an integer; math's functions at constants; the examples of the chapter. -/
import Derived.Test.YtompdlhhfpjebaaMb
namespace Go.Proofs.Ytompdlhhfpjebaa
set_option linter.unusedVariables false
open Go.RowKit
open Fl (nanB canon qnan sg rg negW)
theorem law_nat {n : Int} (h1 : 1 ≤ n) : n = (((n - 1).toNat : Nat) : Int) + 1 := by omega
theorem sides_at (n : Int) (h1 : 1 ≤ n) (h2 : n ≤ 24) (x y z : Nat) (hx : x < 2 ^ 64) (hy : y < 2 ^ 64) (w : World) : Calls Try.prog 14 #[.int .i64 n, .float .f64 x, .float .f64 y, .float .f64 z] w fun e w' => e = .returned (.tuple #[.float .f64 (sidesF (n - 1).toNat (canon x) (canon y) (canon z)).1, .float .f64 (sidesF (n - 1).toNat (canon x) (canon y) (canon z)).2, .int .i64 0]) ∧ Grown w w' := by
  have := sides_yes (n - 1).toNat (by omega) x y z hx hy w
  rwa [← law_nat h1] at this
theorem holds_at (n : Int) (h1 : 1 ≤ n) (h2 : n ≤ 24) (w : World) : Calls Try.prog 15 #[.int .i64 n] w fun e w' => e = .returned (.tuple #[.bool (holdsB (n - 1).toNat), .int .i64 0]) ∧ Grown w w' := by
  have := holds_yes (n - 1).toNat (by omega) w
  rwa [← law_nat h1] at this
theorem wit_at (n : Int) (h1 : 1 ≤ n) (h2 : n ≤ 24) (hh : holdsB (n - 1).toNat = false) (w : World) : Calls Try.prog 16 #[.int .i64 n] w fun e w' => e = .returned (.tuple #[.float .f64 (wits (n - 1).toNat).1, .float .f64 (wits (n - 1).toNat).2.1, .float .f64 (wits (n - 1).toNat).2.2, .int .i64 0]) ∧ Grown w w' := by
  have := witness_yes (n - 1).toNat (by omega) hh w
  rwa [← law_nat h1] at this
theorem witnone_at (n : Int) (h1 : 1 ≤ n) (h2 : n ≤ 24) (hh : holdsB (n - 1).toNat = true) (w : World) : Calls Try.prog 16 #[.int .i64 n] w fun e w' => e = .returned (.tuple #[.float .f64 0, .float .f64 0, .float .f64 0, .int .i64 6]) ∧ Grown w w' := by
  have := witness_none (n - 1).toNat (by omega) hh w
  rwa [← law_nat h1] at this
theorem copysign_low (w : World) : Calls Try.prog 29 #[.float .f64 0, .float .f64 13830554455654793216] w fun e w' => e = .returned (.float .f64 9223372036854775808) ∧ w = w' := by
  go_enter Try.func29, Try.ntmps29
  go_wp2
  go_ret
  exact ⟨ret_flt (by decide), rfl⟩
theorem inf_calls (w : World) : Calls Try.prog 30 #[.int .i64 1] w fun e w' => e = .returned (.float .f64 9218868437227405312) ∧ w = w' := by
  go_enter Try.func30, Try.ntmps30
  go_wp2
  go_ret
  exact ⟨rfl, rfl⟩
theorem is_true (k : Int) (x y z : Nat) (h1 : 1 ≤ k) (h7 : k ≤ 7) (hx : x < 2 ^ 64) (hy : y < 2 ^ 64) (h : sameF (opF k.toNat x y) z = true) (w : World) :
    Calls Try.prog 31 #[.int .u8 k, .float .f64 x, .float .f64 y, .float .f64 z] w fun e w' => e = .returned (.bool true) ∧ Grown w w' := by
  have := is_calls k h1 h7 x y z hx hy w
  rwa [h] at this
theorem samef_true (x y : Nat) (h : sameF x y = true) (w : World) : Calls Try.prog 33 #[.float .f64 x, .float .f64 y] w fun e w' => e = .returned (.bool true) ∧ w = w' := by
  have := samef_calls x y w
  rwa [h] at this
theorem sum_nil (w : World) : Calls Try.prog 18 #[.slice none 0 0] w fun e w' => e = .returned (.float .f64 9223372036854775808) ∧ w = w' := by
  go_enter Try.func18, Try.ntmps18
  go_wp2_with (go_at_call 38; refine (zero_calls _).mono ?_; rintro e w' ⟨rfl, rfl⟩)
  go_rounds 1
  go_ret
  exact ⟨rfl, rfl⟩
theorem holds_lit (n : Int) (b : Bool) (h1 : 1 ≤ n) (h2 : n ≤ 24) (hh : holdsB (n - 1).toNat = b) (w : World) : Calls Try.prog 15 #[.int .i64 n] w fun e w' => e = .returned (.tuple #[.bool b, .int .i64 0]) ∧ Grown w w' := by
  have := holds_at n h1 h2 w
  rwa [hh] at this
set_option maxRecDepth 100000 in
set_option maxHeartbeats 4000000 in
theorem awake_calls (w : World) : Calls Try.prog 9 #[] w fun e w' => e = .returned (.bool true) ∧ Grown w w' := by
  have hg := Grown.refl w
  go_enter Try.func9, Try.ntmps9
  go_wp2_with fail
  refine (copysign_low _).mono ?_; rintro e w' ⟨rfl, rfl⟩
  go_wp2_with fail
  refine (inf_calls _).mono ?_; rintro e w' ⟨rfl, rfl⟩
  go_wp2_with fail
  refine (sides_at 20 (by decide) (by decide) _ _ _ (by decide) (by decide) _).mono ?_; rintro e w1 ⟨rfl, hg2⟩
  have hg3 := gtrans hg hg2
  clear hg hg2
  have hg := hg3
  clear hg3
  go_wp2_with fail
  refine (holds_lit 7 true (by decide) (by decide) (by decide) _).mono ?_; rintro e w1 ⟨rfl, hg2⟩
  have hg3 := gtrans hg hg2
  clear hg hg2
  have hg := hg3
  clear hg3
  go_wp2_with fail
  refine (holds_lit 20 false (by decide) (by decide) (by decide) _).mono ?_; rintro e w1 ⟨rfl, hg2⟩
  have hg3 := gtrans hg hg2
  clear hg hg2
  have hg := hg3
  clear hg3
  go_wp2_with fail
  refine (witnone_at 9 (by decide) (by decide) (by decide) _).mono ?_; rintro e w1 ⟨rfl, hg2⟩
  have hg3 := gtrans hg hg2
  clear hg hg2
  have hg := hg3
  clear hg3
  go_wp2_with fail
  refine (is_true _ _ _ _ (by decide) (by decide) (by decide) (by decide) (by decide +kernel) _).mono ?_; rintro e w1 ⟨rfl, hg2⟩
  have hg3 := gtrans hg hg2
  clear hg hg2
  have hg := hg3
  clear hg3
  go_wp2_with fail
  refine (mnan_calls _).mono ?_; rintro e w' ⟨rfl, rfl⟩
  go_wp2_with fail
  refine (is_true _ _ _ _ (by decide) (by decide) (by decide) (by decide) (by decide +kernel) _).mono ?_; rintro e w1 ⟨rfl, hg2⟩
  have hg3 := gtrans hg hg2
  clear hg hg2
  have hg := hg3
  clear hg3
  go_wp2_with fail
  refine (mnan_calls _).mono ?_; rintro e w' ⟨rfl, rfl⟩
  go_wp2_with fail
  refine (is_true _ _ _ _ (by decide) (by decide) (by decide) (by decide) (by decide +kernel) _).mono ?_; rintro e w1 ⟨rfl, hg2⟩
  have hg3 := gtrans hg hg2
  clear hg hg2
  have hg := hg3
  clear hg3
  go_wp2_with fail
  refine (is_true _ _ _ _ (by decide) (by decide) (by decide) (by decide) (by decide +kernel) _).mono ?_; rintro e w1 ⟨rfl, hg2⟩
  have hg3 := gtrans hg hg2
  clear hg hg2
  have hg := hg3
  clear hg3
  go_wp2_with fail
  refine (mnan_calls _).mono ?_; rintro e w' ⟨rfl, rfl⟩
  go_wp2_with fail
  refine (is_true _ _ _ _ (by decide) (by decide) (by decide) (by decide) (by decide +kernel) _).mono ?_; rintro e w1 ⟨rfl, hg2⟩
  have hg3 := gtrans hg hg2
  clear hg hg2
  have hg := hg3
  clear hg3
  go_wp2_with fail
  refine (is_true _ _ _ _ (by decide) (by decide) (by decide) (by decide) (by decide +kernel) _).mono ?_; rintro e w1 ⟨rfl, hg2⟩
  have hg3 := gtrans hg hg2
  clear hg hg2
  have hg := hg3
  clear hg3
  go_wp2_with fail
  refine (mnan_calls _).mono ?_; rintro e w' ⟨rfl, rfl⟩
  go_wp2_with fail
  refine (mnan_calls _).mono ?_; rintro e w' ⟨rfl, rfl⟩
  go_wp2_with fail
  refine (is_true _ _ _ _ (by decide) (by decide) (by decide) (by decide) (by decide +kernel) _).mono ?_; rintro e w1 ⟨rfl, hg2⟩
  have hg3 := gtrans hg hg2
  clear hg hg2
  have hg := hg3
  clear hg3
  go_wp2_with fail
  refine (is_true _ _ _ _ (by decide) (by decide) (by decide) (by decide) (by decide +kernel) _).mono ?_; rintro e w1 ⟨rfl, hg2⟩
  have hg3 := gtrans hg hg2
  clear hg hg2
  have hg := hg3
  clear hg3
  go_wp2_with fail
  refine (samef_true _ _ (by decide +kernel) _).mono ?_; rintro e w' ⟨rfl, rfl⟩
  go_wp2_with fail
  refine (samef_true _ _ (by decide +kernel) _).mono ?_; rintro e w' ⟨rfl, rfl⟩
  go_wp2_with fail
  refine (sum_nil _).mono ?_; rintro e w' ⟨rfl, rfl⟩
  go_wp2_with fail
  refine (samef_true _ _ (by decide +kernel) _).mono ?_; rintro e w' ⟨rfl, rfl⟩
  go_wp2_with fail
  go_ret
  exact ⟨rfl, hg⟩
end Go.Proofs.Ytompdlhhfpjebaa
