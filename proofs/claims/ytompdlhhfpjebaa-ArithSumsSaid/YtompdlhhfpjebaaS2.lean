/- Walks of repartee/arith: both sides of each law. -/
import Derived.Test.YtompdlhhfpjebaaS0
import Derived.Deep.RegionHeld3
namespace Go.Proofs.Ytompdlhhfpjebaa
set_option linter.unusedVariables false
open Go.RowKit
open Fl (nanB canon qnan sg rg negW)
set_option maxHeartbeats 2000000 in
theorem side6 (b x y z : Nat)  (w : World) (hc0 : w.cell? ⟨b + 2, 0, none⟩ = some (.func (.func 51) #[] #[])) :
    Calls Try.prog 61 #[.float .f64 x, .float .f64 y, .float .f64 z, .pointer (some ⟨b + 2, 0, none⟩)] w fun e w' => e = .returned (.tuple #[.float .f64 (opF 3 x 0), .float .f64 x]) ∧ Grown w w' := by
  go_enter Try.func61, Try.ntmps61
  go_wp2_with (first | (go_at_call 51; refine (s_calls _ _ _).mono ?_; rintro e w1 ⟨rfl, hg1⟩))
  go_ret2
  exact ⟨rfl, by assumption⟩
set_option maxHeartbeats 2000000 in
theorem side7 (b x y z : Nat)  (w : World) (hc0 : w.cell? ⟨b + 1, 0, none⟩ = some (.func (.func 50) #[] #[])) :
    Calls Try.prog 62 #[.float .f64 x, .float .f64 y, .float .f64 z, .pointer (some ⟨b + 1, 0, none⟩)] w fun e w' => e = .returned (.tuple #[.float .f64 (opF 2 x 9223372036854775808), .float .f64 x]) ∧ Grown w w' := by
  go_enter Try.func62, Try.ntmps62
  go_wp2_with fail
  go_region_held3 (fun w' => w'.cell? ⟨b + 1, 0, none⟩ = some (.func (.func 50) #[] #[]) ∧ Grown w w') (first | exact ⟨hc0, Grown.refl _⟩ | exact ⟨hc0, (Grown.refl _).drew⟩ | exact keep1 (by assumption) (by assumption) | assumption)
    (first | (go_at_call 50; refine (a_calls _ _ _).mono ?_; rintro e w1 ⟨rfl, hg1⟩) | (go_at_call 38; refine (zero_calls _).mono ?_; rintro e w1 ⟨rfl, rfl⟩))
  go_wp2
  go_ret2
  exact ⟨rfl, (by assumption : _ ∧ Grown w _).2⟩
set_option maxHeartbeats 2000000 in
theorem side8 (b x y z : Nat)  (w : World) (hc0 : w.cell? ⟨b + 5, 0, none⟩ = some (.func (.func 54) #[] #[])) :
    Calls Try.prog 63 #[.float .f64 x, .float .f64 y, .float .f64 z, .pointer (some ⟨b + 5, 0, none⟩)] w fun e w' => e = .returned (.tuple #[.float .f64 (opF 1 (opF 1 x 0) 0), .float .f64 x]) ∧ Grown w w' := by
  go_enter Try.func63, Try.ntmps63
  go_wp2_with fail
  go_region_held3 (fun w' => w'.cell? ⟨b + 5, 0, none⟩ = some (.func (.func 54) #[] #[]) ∧ Grown w w') (first | exact ⟨hc0, Grown.refl _⟩ | exact ⟨hc0, (Grown.refl _).drew⟩ | exact keep1 (by assumption) (by assumption) | assumption)
    (first | (go_at_call 54; refine (n_calls _ _).mono ?_; rintro e w1 ⟨rfl, hg1⟩))
  go_wp2
  go_ret2
  exact ⟨rfl, (by assumption : _ ∧ Grown w _).2⟩
set_option maxHeartbeats 2000000 in
theorem side9 (b x y z : Nat)  (w : World) (hc0 : w.cell? ⟨b + 2, 0, none⟩ = some (.func (.func 51) #[] #[])) (hc1 : w.cell? ⟨b + 1, 0, none⟩ = some (.func (.func 50) #[] #[])) (hc2 : w.cell? ⟨b + 5, 0, none⟩ = some (.func (.func 54) #[] #[])) :
    Calls Try.prog 64 #[.float .f64 x, .float .f64 y, .float .f64 z, .pointer (some ⟨b + 2, 0, none⟩), .pointer (some ⟨b + 1, 0, none⟩), .pointer (some ⟨b + 5, 0, none⟩)] w fun e w' => e = .returned (.tuple #[.float .f64 (opF 3 x y), .float .f64 (opF 2 x (opF 1 y 0))]) ∧ Grown w w' := by
  go_enter Try.func64, Try.ntmps64
  go_wp2_with fail
  go_region_held3 (fun w' => w'.cell? ⟨b + 2, 0, none⟩ = some (.func (.func 51) #[] #[]) ∧ w'.cell? ⟨b + 1, 0, none⟩ = some (.func (.func 50) #[] #[]) ∧ w'.cell? ⟨b + 5, 0, none⟩ = some (.func (.func 54) #[] #[]) ∧ Grown w w') (first | exact ⟨hc0, hc1, hc2, Grown.refl _⟩ | exact ⟨hc0, hc1, hc2, (Grown.refl _).drew⟩ | exact keep3 (by assumption) (by assumption) | assumption)
    (first | (go_at_call 50; refine (a_calls _ _ _).mono ?_; rintro e w1 ⟨rfl, hg1⟩) | (go_at_call 51; refine (s_calls _ _ _).mono ?_; rintro e w1 ⟨rfl, hg1⟩) | (go_at_call 54; refine (n_calls _ _).mono ?_; rintro e w1 ⟨rfl, hg1⟩))
  go_wp2
  go_ret2
  exact ⟨rfl, (by assumption : _ ∧ _ ∧ _ ∧ Grown w _).2.2.2⟩
set_option maxHeartbeats 2000000 in
theorem side10 (b x y z : Nat) (hx : x < 2 ^ 64) (hy : y < 2 ^ 64) (w : World)  :
    Calls Try.prog 65 #[.float .f64 x, .float .f64 y, .float .f64 z] w fun e w' => e = .returned (.tuple #[.float .f64 (opF 6 x x), .float .f64 x]) ∧ Grown w w' := by
  have C := Lib.hid (fun w => do6 x x hx hx w)
  clear hx hy
  go_enter Try.func65, Try.ntmps65
  go_wp2_with fail
  refine (C.out _).mono ?_
  rintro e w1 ⟨rfl, hg1⟩
  go_wp2_with fail
  go_ret2
  exact ⟨rfl, hg1⟩
set_option maxHeartbeats 2000000 in
theorem side11 (b x y z : Nat)  (w : World) (hc0 : w.cell? ⟨b + 5, 0, none⟩ = some (.func (.func 54) #[] #[])) (hc1 : w.cell? ⟨b + 2, 0, none⟩ = some (.func (.func 51) #[] #[])) :
    Calls Try.prog 66 #[.float .f64 x, .float .f64 y, .float .f64 z, .pointer (some ⟨b + 5, 0, none⟩), .pointer (some ⟨b + 2, 0, none⟩)] w fun e w' => e = .returned (.tuple #[.float .f64 (opF 1 (opF 3 x y) 0), .float .f64 (opF 3 y x)]) ∧ Grown w w' := by
  go_enter Try.func66, Try.ntmps66
  go_wp2_with fail
  go_region_held3 (fun w' => w'.cell? ⟨b + 5, 0, none⟩ = some (.func (.func 54) #[] #[]) ∧ w'.cell? ⟨b + 2, 0, none⟩ = some (.func (.func 51) #[] #[]) ∧ Grown w w') (first | exact ⟨hc0, hc1, Grown.refl _⟩ | exact ⟨hc0, hc1, (Grown.refl _).drew⟩ | exact keep2 (by assumption) (by assumption) | assumption)
    (first | (go_at_call 51; refine (s_calls _ _ _).mono ?_; rintro e w1 ⟨rfl, hg1⟩) | (go_at_call 54; refine (n_calls _ _).mono ?_; rintro e w1 ⟨rfl, hg1⟩))
  go_wp2
  go_ret2
  exact ⟨rfl, (by assumption : _ ∧ _ ∧ Grown w _).2.2⟩
end Go.Proofs.Ytompdlhhfpjebaa
