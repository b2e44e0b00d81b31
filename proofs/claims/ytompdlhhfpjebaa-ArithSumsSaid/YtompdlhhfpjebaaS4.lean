/- Walks of repartee/arith: both sides of each law. -/
import Derived.Test.YtompdlhhfpjebaaS0
import Derived.Deep.RegionHeld3
namespace Go.Proofs.Ytompdlhhfpjebaa
set_option linter.unusedVariables false
open Go.RowKit
open Fl (nanB canon qnan sg rg negW)
set_option maxHeartbeats 2000000 in
theorem side18 (b x y z : Nat)  (w : World) (hc0 : w.cell? ⟨b + 4, 0, none⟩ = some (.func (.func 53) #[] #[])) :
    Calls Try.prog 73 #[.float .f64 x, .float .f64 y, .float .f64 z, .pointer (some ⟨b + 4, 0, none⟩)] w fun e w' => e = .returned (.tuple #[.float .f64 (opF 5 x x), .float .f64 4607182418800017408]) ∧ Grown w w' := by
  go_enter Try.func73, Try.ntmps73
  go_wp2_with (first | (go_at_call 53; refine (d_calls _ _ _).mono ?_; rintro e w1 ⟨rfl, hg1⟩))
  go_ret2
  exact ⟨rfl, by assumption⟩
set_option maxHeartbeats 2000000 in
theorem side19 (b x y z : Nat)  (w : World) (hc0 : w.cell? ⟨b + 1, 0, none⟩ = some (.func (.func 50) #[] #[])) :
    Calls Try.prog 74 #[.float .f64 x, .float .f64 y, .float .f64 z, .pointer (some ⟨b + 1, 0, none⟩)] w fun e w' => e = .returned (.tuple #[.float .f64 (opF 2 x 0), .float .f64 x]) ∧ Grown w w' := by
  go_enter Try.func74, Try.ntmps74
  go_wp2_with (first | (go_at_call 50; refine (a_calls _ _ _).mono ?_; rintro e w1 ⟨rfl, hg1⟩))
  go_ret2
  exact ⟨rfl, by assumption⟩
set_option maxHeartbeats 2000000 in
theorem side20 (b x y z : Nat)  (w : World) (hc0 : w.cell? ⟨b + 4, 0, none⟩ = some (.func (.func 53) #[] #[])) (hc1 : w.cell? ⟨b + 3, 0, none⟩ = some (.func (.func 52) #[] #[])) :
    Calls Try.prog 75 #[.float .f64 x, .float .f64 y, .float .f64 z, .pointer (some ⟨b + 4, 0, none⟩), .pointer (some ⟨b + 3, 0, none⟩)] w fun e w' => e = .returned (.tuple #[.float .f64 (opF 5 (opF 4 x y) y), .float .f64 x]) ∧ Grown w w' := by
  go_enter Try.func75, Try.ntmps75
  go_wp2_with fail
  go_region_held3 (fun w' => w'.cell? ⟨b + 4, 0, none⟩ = some (.func (.func 53) #[] #[]) ∧ w'.cell? ⟨b + 3, 0, none⟩ = some (.func (.func 52) #[] #[]) ∧ Grown w w') (first | exact ⟨hc0, hc1, Grown.refl _⟩ | exact ⟨hc0, hc1, (Grown.refl _).drew⟩ | exact keep2 (by assumption) (by assumption) | assumption)
    (first | (go_at_call 52; refine (m_calls _ _ _).mono ?_; rintro e w1 ⟨rfl, hg1⟩) | (go_at_call 53; refine (d_calls _ _ _).mono ?_; rintro e w1 ⟨rfl, hg1⟩))
  go_wp2
  go_ret2
  exact ⟨rfl, (by assumption : _ ∧ _ ∧ Grown w _).2.2⟩
set_option maxHeartbeats 2000000 in
theorem side21 (b x y z : Nat) (hx : x < 2 ^ 64) (hy : y < 2 ^ 64) (w : World) (hc0 : w.cell? ⟨b, 0, none⟩ = some (.float .f64 9218868437227405312)) :
    Calls Try.prog 76 #[.float .f64 x, .float .f64 y, .float .f64 z, .pointer (some ⟨b, 0, none⟩)] w fun e w' => e = .returned (.tuple #[.float .f64 (opF 6 x 9218868437227405312), .float .f64 x]) ∧ Grown w w' := by
  have C := Lib.hid (fun w => do6 x 9218868437227405312 hx (by decide) w)
  clear hx hy
  go_enter Try.func76, Try.ntmps76
  go_wp2_with fail
  refine (C.out _).mono ?_
  rintro e w1 ⟨rfl, hg1⟩
  go_wp2_with fail
  go_ret2
  exact ⟨rfl, hg1⟩
set_option maxHeartbeats 2000000 in
theorem side22 (b x y z : Nat)  (w : World) (hc0 : w.cell? ⟨b + 3, 0, none⟩ = some (.func (.func 52) #[] #[])) (hc1 : w.cell? ⟨b + 5, 0, none⟩ = some (.func (.func 54) #[] #[])) :
    Calls Try.prog 77 #[.float .f64 x, .float .f64 y, .float .f64 z, .pointer (some ⟨b + 3, 0, none⟩), .pointer (some ⟨b + 5, 0, none⟩)] w fun e w' => e = .returned (.tuple #[.float .f64 (opF 4 x 13830554455654793216), .float .f64 (opF 1 x 0)]) ∧ Grown w w' := by
  go_enter Try.func77, Try.ntmps77
  go_wp2_with fail
  go_region_held3 (fun w' => w'.cell? ⟨b + 3, 0, none⟩ = some (.func (.func 52) #[] #[]) ∧ w'.cell? ⟨b + 5, 0, none⟩ = some (.func (.func 54) #[] #[]) ∧ Grown w w') (first | exact ⟨hc0, hc1, Grown.refl _⟩ | exact ⟨hc0, hc1, (Grown.refl _).drew⟩ | exact keep2 (by assumption) (by assumption) | assumption)
    (first | (go_at_call 52; refine (m_calls _ _ _).mono ?_; rintro e w1 ⟨rfl, hg1⟩) | (go_at_call 54; refine (n_calls _ _).mono ?_; rintro e w1 ⟨rfl, hg1⟩))
  go_wp2
  go_ret2
  exact ⟨rfl, (by assumption : _ ∧ _ ∧ Grown w _).2.2⟩
set_option maxHeartbeats 2000000 in
theorem side23 (b x y z : Nat)  (w : World) (hc0 : w.cell? ⟨b + 4, 0, none⟩ = some (.func (.func 53) #[] #[])) (hc1 : w.cell? ⟨b + 3, 0, none⟩ = some (.func (.func 52) #[] #[])) :
    Calls Try.prog 78 #[.float .f64 x, .float .f64 y, .float .f64 z, .pointer (some ⟨b + 4, 0, none⟩), .pointer (some ⟨b + 3, 0, none⟩)] w fun e w' => e = .returned (.tuple #[.float .f64 (opF 5 x y), .float .f64 (opF 4 x (opF 5 4607182418800017408 y))]) ∧ Grown w w' := by
  go_enter Try.func78, Try.ntmps78
  go_wp2_with fail
  go_region_held3 (fun w' => w'.cell? ⟨b + 4, 0, none⟩ = some (.func (.func 53) #[] #[]) ∧ w'.cell? ⟨b + 3, 0, none⟩ = some (.func (.func 52) #[] #[]) ∧ Grown w w') (first | exact ⟨hc0, hc1, Grown.refl _⟩ | exact ⟨hc0, hc1, (Grown.refl _).drew⟩ | exact keep2 (by assumption) (by assumption) | assumption)
    (first | (go_at_call 52; refine (m_calls _ _ _).mono ?_; rintro e w1 ⟨rfl, hg1⟩) | (go_at_call 53; refine (d_calls _ _ _).mono ?_; rintro e w1 ⟨rfl, hg1⟩))
  go_wp2
  go_ret2
  exact ⟨rfl, (by assumption : _ ∧ _ ∧ Grown w _).2.2⟩
end Go.Proofs.Ytompdlhhfpjebaa
