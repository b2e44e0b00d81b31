/- Walks of repartee/arith: both sides of each law. -/
import Derived.Test.YtompdlhhfpjebaaS0
import Derived.Deep.RegionHeld3
namespace Go.Proofs.Ytompdlhhfpjebaa
set_option linter.unusedVariables false
open Go.RowKit
open Fl (nanB canon qnan sg rg negW)
set_option maxHeartbeats 2000000 in
theorem side0 (b x y z : Nat)  (w : World) (hc0 : w.cell? ⟨b + 1, 0, none⟩ = some (.func (.func 50) #[] #[])) :
    Calls Try.prog 55 #[.float .f64 x, .float .f64 y, .float .f64 z, .pointer (some ⟨b + 1, 0, none⟩)] w fun e w' => e = .returned (.tuple #[.float .f64 (opF 2 x y), .float .f64 (opF 2 y x)]) ∧ Grown w w' := by
  go_enter Try.func55, Try.ntmps55
  go_wp2_with fail
  go_region_held3 (fun w' => w'.cell? ⟨b + 1, 0, none⟩ = some (.func (.func 50) #[] #[]) ∧ Grown w w') (first | exact ⟨hc0, Grown.refl _⟩ | exact ⟨hc0, (Grown.refl _).drew⟩ | exact keep1 (by assumption) (by assumption) | assumption)
    (first | (go_at_call 50; refine (a_calls _ _ _).mono ?_; rintro e w1 ⟨rfl, hg1⟩))
  go_wp2
  go_ret2
  exact ⟨rfl, (by assumption : _ ∧ Grown w _).2⟩
set_option maxHeartbeats 2000000 in
theorem side1 (b x y z : Nat)  (w : World) (hc0 : w.cell? ⟨b + 3, 0, none⟩ = some (.func (.func 52) #[] #[])) :
    Calls Try.prog 56 #[.float .f64 x, .float .f64 y, .float .f64 z, .pointer (some ⟨b + 3, 0, none⟩)] w fun e w' => e = .returned (.tuple #[.float .f64 (opF 4 x y), .float .f64 (opF 4 y x)]) ∧ Grown w w' := by
  go_enter Try.func56, Try.ntmps56
  go_wp2_with fail
  go_region_held3 (fun w' => w'.cell? ⟨b + 3, 0, none⟩ = some (.func (.func 52) #[] #[]) ∧ Grown w w') (first | exact ⟨hc0, Grown.refl _⟩ | exact ⟨hc0, (Grown.refl _).drew⟩ | exact keep1 (by assumption) (by assumption) | assumption)
    (first | (go_at_call 52; refine (m_calls _ _ _).mono ?_; rintro e w1 ⟨rfl, hg1⟩))
  go_wp2
  go_ret2
  exact ⟨rfl, (by assumption : _ ∧ Grown w _).2⟩
set_option maxHeartbeats 2000000 in
theorem side2 (b x y z : Nat) (hx : x < 2 ^ 64) (hy : y < 2 ^ 64) (w : World)  :
    Calls Try.prog 57 #[.float .f64 x, .float .f64 y, .float .f64 z] w fun e w' => e = .returned (.tuple #[.float .f64 (opF 6 x y), .float .f64 (opF 6 y x)]) ∧ Grown w w' := by
  have C := Lib.hid (fun w => do6 x y hx hy w)
  have C2 := Lib.hid (fun w => do6 y x hy hx w)
  clear hx hy
  go_enter Try.func57, Try.ntmps57
  go_wp2_with fail
  refine (C.out _).mono ?_
  rintro e w1 ⟨rfl, hg1⟩
  go_wp2_with fail
  refine (C2.out _).mono ?_
  rintro e w2 ⟨rfl, hg2⟩
  go_wp2_with fail
  go_ret2
  exact ⟨rfl, gtrans hg1 hg2⟩
set_option maxHeartbeats 2000000 in
theorem side3 (b x y z : Nat) (hx : x < 2 ^ 64) (hy : y < 2 ^ 64) (w : World)  :
    Calls Try.prog 58 #[.float .f64 x, .float .f64 y, .float .f64 z] w fun e w' => e = .returned (.tuple #[.float .f64 (opF 7 x y), .float .f64 (opF 7 y x)]) ∧ Grown w w' := by
  have C := Lib.hid (fun w => do7 x y hx hy w)
  have C2 := Lib.hid (fun w => do7 y x hy hx w)
  clear hx hy
  go_enter Try.func58, Try.ntmps58
  go_wp2_with fail
  refine (C.out _).mono ?_
  rintro e w1 ⟨rfl, hg1⟩
  go_wp2_with fail
  refine (C2.out _).mono ?_
  rintro e w2 ⟨rfl, hg2⟩
  go_wp2_with fail
  go_ret2
  exact ⟨rfl, gtrans hg1 hg2⟩
set_option maxHeartbeats 2000000 in
theorem side4 (b x y z : Nat)  (w : World) (hc0 : w.cell? ⟨b + 3, 0, none⟩ = some (.func (.func 52) #[] #[])) :
    Calls Try.prog 59 #[.float .f64 x, .float .f64 y, .float .f64 z, .pointer (some ⟨b + 3, 0, none⟩)] w fun e w' => e = .returned (.tuple #[.float .f64 (opF 4 x 4607182418800017408), .float .f64 x]) ∧ Grown w w' := by
  go_enter Try.func59, Try.ntmps59
  go_wp2_with (first | (go_at_call 52; refine (m_calls _ _ _).mono ?_; rintro e w1 ⟨rfl, hg1⟩))
  go_ret2
  exact ⟨rfl, by assumption⟩
set_option maxHeartbeats 2000000 in
theorem side5 (b x y z : Nat)  (w : World) (hc0 : w.cell? ⟨b + 4, 0, none⟩ = some (.func (.func 53) #[] #[])) :
    Calls Try.prog 60 #[.float .f64 x, .float .f64 y, .float .f64 z, .pointer (some ⟨b + 4, 0, none⟩)] w fun e w' => e = .returned (.tuple #[.float .f64 (opF 5 x 4607182418800017408), .float .f64 x]) ∧ Grown w w' := by
  go_enter Try.func60, Try.ntmps60
  go_wp2_with (first | (go_at_call 53; refine (d_calls _ _ _).mono ?_; rintro e w1 ⟨rfl, hg1⟩))
  go_ret2
  exact ⟨rfl, by assumption⟩
end Go.Proofs.Ytompdlhhfpjebaa
