/- Walks of repartee/arith: both sides of each law. -/
import Derived.Test.YtompdlhhfpjebaaS0
import Derived.Deep.RegionHeld3
namespace Go.Proofs.Ytompdlhhfpjebaa
set_option linter.unusedVariables false
open Go.RowKit
open Fl (nanB canon qnan sg rg negW)
set_option maxHeartbeats 2000000 in
theorem side12 (b x y z : Nat)  (w : World) (hc0 : w.cell? ⟨b + 2, 0, none⟩ = some (.func (.func 51) #[] #[])) :
    Calls Try.prog 67 #[.float .f64 x, .float .f64 y, .float .f64 z, .pointer (some ⟨b + 2, 0, none⟩)] w fun e w' => e = .returned (.tuple #[.float .f64 (opF 3 x x), .float .f64 0]) ∧ Grown w w' := by
  go_enter Try.func67, Try.ntmps67
  go_wp2_with (first | (go_at_call 51; refine (s_calls _ _ _).mono ?_; rintro e w1 ⟨rfl, hg1⟩))
  go_ret2
  exact ⟨rfl, by assumption⟩
set_option maxHeartbeats 2000000 in
theorem side13 (b x y z : Nat)  (w : World) (hc0 : w.cell? ⟨b + 3, 0, none⟩ = some (.func (.func 52) #[] #[])) :
    Calls Try.prog 68 #[.float .f64 x, .float .f64 y, .float .f64 z, .pointer (some ⟨b + 3, 0, none⟩)] w fun e w' => e = .returned (.tuple #[.float .f64 (opF 4 0 x), .float .f64 0]) ∧ Grown w w' := by
  go_enter Try.func68, Try.ntmps68
  go_wp2_with (first | (go_at_call 52; refine (m_calls _ _ _).mono ?_; rintro e w1 ⟨rfl, hg1⟩))
  go_ret2
  exact ⟨rfl, by assumption⟩
set_option maxHeartbeats 2000000 in
theorem side14 (b x y z : Nat)  (w : World) (hc0 : w.cell? ⟨b + 1, 0, none⟩ = some (.func (.func 50) #[] #[])) :
    Calls Try.prog 69 #[.float .f64 x, .float .f64 y, .float .f64 z, .pointer (some ⟨b + 1, 0, none⟩)] w fun e w' => e = .returned (.tuple #[.float .f64 (opF 2 (opF 2 x y) z), .float .f64 (opF 2 x (opF 2 y z))]) ∧ Grown w w' := by
  go_enter Try.func69, Try.ntmps69
  go_wp2_with fail
  go_region_held3 (fun w' => w'.cell? ⟨b + 1, 0, none⟩ = some (.func (.func 50) #[] #[]) ∧ Grown w w') (first | exact ⟨hc0, Grown.refl _⟩ | exact ⟨hc0, (Grown.refl _).drew⟩ | exact keep1 (by assumption) (by assumption) | assumption)
    (first | (go_at_call 50; refine (a_calls _ _ _).mono ?_; rintro e w1 ⟨rfl, hg1⟩))
  go_wp2
  go_ret2
  exact ⟨rfl, (by assumption : _ ∧ Grown w _).2⟩
set_option maxHeartbeats 2000000 in
theorem side15 (b x y z : Nat)  (w : World) (hc0 : w.cell? ⟨b + 3, 0, none⟩ = some (.func (.func 52) #[] #[])) :
    Calls Try.prog 70 #[.float .f64 x, .float .f64 y, .float .f64 z, .pointer (some ⟨b + 3, 0, none⟩)] w fun e w' => e = .returned (.tuple #[.float .f64 (opF 4 (opF 4 x y) z), .float .f64 (opF 4 x (opF 4 y z))]) ∧ Grown w w' := by
  go_enter Try.func70, Try.ntmps70
  go_wp2_with fail
  go_region_held3 (fun w' => w'.cell? ⟨b + 3, 0, none⟩ = some (.func (.func 52) #[] #[]) ∧ Grown w w') (first | exact ⟨hc0, Grown.refl _⟩ | exact ⟨hc0, (Grown.refl _).drew⟩ | exact keep1 (by assumption) (by assumption) | assumption)
    (first | (go_at_call 52; refine (m_calls _ _ _).mono ?_; rintro e w1 ⟨rfl, hg1⟩))
  go_wp2
  go_ret2
  exact ⟨rfl, (by assumption : _ ∧ Grown w _).2⟩
set_option maxHeartbeats 2000000 in
theorem side16 (b x y z : Nat)  (w : World) (hc0 : w.cell? ⟨b + 3, 0, none⟩ = some (.func (.func 52) #[] #[])) (hc1 : w.cell? ⟨b + 1, 0, none⟩ = some (.func (.func 50) #[] #[])) :
    Calls Try.prog 71 #[.float .f64 x, .float .f64 y, .float .f64 z, .pointer (some ⟨b + 3, 0, none⟩), .pointer (some ⟨b + 1, 0, none⟩)] w fun e w' => e = .returned (.tuple #[.float .f64 (opF 4 x (opF 2 y z)), .float .f64 (opF 2 (opF 4 x y) (opF 4 x z))]) ∧ Grown w w' := by
  go_enter Try.func71, Try.ntmps71
  go_wp2_with fail
  go_region_held3 (fun w' => w'.cell? ⟨b + 3, 0, none⟩ = some (.func (.func 52) #[] #[]) ∧ w'.cell? ⟨b + 1, 0, none⟩ = some (.func (.func 50) #[] #[]) ∧ Grown w w') (first | exact ⟨hc0, hc1, Grown.refl _⟩ | exact ⟨hc0, hc1, (Grown.refl _).drew⟩ | exact keep2 (by assumption) (by assumption) | assumption)
    (first | (go_at_call 50; refine (a_calls _ _ _).mono ?_; rintro e w1 ⟨rfl, hg1⟩) | (go_at_call 52; refine (m_calls _ _ _).mono ?_; rintro e w1 ⟨rfl, hg1⟩))
  go_wp2
  go_ret2
  exact ⟨rfl, (by assumption : _ ∧ _ ∧ Grown w _).2.2⟩
set_option maxHeartbeats 2000000 in
theorem side17 (b x y z : Nat)  (w : World) (hc0 : w.cell? ⟨b + 2, 0, none⟩ = some (.func (.func 51) #[] #[])) (hc1 : w.cell? ⟨b + 1, 0, none⟩ = some (.func (.func 50) #[] #[])) :
    Calls Try.prog 72 #[.float .f64 x, .float .f64 y, .float .f64 z, .pointer (some ⟨b + 2, 0, none⟩), .pointer (some ⟨b + 1, 0, none⟩)] w fun e w' => e = .returned (.tuple #[.float .f64 (opF 3 (opF 2 x y) y), .float .f64 x]) ∧ Grown w w' := by
  go_enter Try.func72, Try.ntmps72
  go_wp2_with fail
  go_region_held3 (fun w' => w'.cell? ⟨b + 2, 0, none⟩ = some (.func (.func 51) #[] #[]) ∧ w'.cell? ⟨b + 1, 0, none⟩ = some (.func (.func 50) #[] #[]) ∧ Grown w w') (first | exact ⟨hc0, hc1, Grown.refl _⟩ | exact ⟨hc0, hc1, (Grown.refl _).drew⟩ | exact keep2 (by assumption) (by assumption) | assumption)
    (first | (go_at_call 50; refine (a_calls _ _ _).mono ?_; rintro e w1 ⟨rfl, hg1⟩) | (go_at_call 51; refine (s_calls _ _ _).mono ?_; rintro e w1 ⟨rfl, hg1⟩))
  go_wp2
  go_ret2
  exact ⟨rfl, (by assumption : _ ∧ _ ∧ Grown w _).2.2⟩
end Go.Proofs.Ytompdlhhfpjebaa
