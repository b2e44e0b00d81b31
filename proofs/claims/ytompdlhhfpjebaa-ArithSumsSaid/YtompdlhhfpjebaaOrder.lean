/- The walk of ArithOrder. -/
import Derived.Test.YtompdlhhfpjebaaOrderP
namespace Go.Proofs.Ytompdlhhfpjebaa
set_option linter.unusedVariables false
open Go.RowKit
open Fl (nanB canon qnan sg rg negW)
theorem ldo_lit (k : Int) (n : Nat) (hk : k = (n : Int)) (h1 : 1 ≤ n) (h7 : n ≤ 7) (x y : Nat) (hx : x < 2 ^ 64) (hy : y < 2 ^ 64) (w : World) :
    Calls Try.prog 10 #[.int .u8 k, .float .f64 x, .float .f64 y] w fun e w' => e = .returned (.float .f64 (opF n x y)) ∧ Grown w w' := by
  subst hk
  exact ldo_nat n h1 h7 x y hx hy w
theorem turn_calls (x : Nat) (hx : x < 2 ^ 64) (w : World) : Calls Try.prog 26 #[.float .f64 x] w fun e w' => e = .returned (.float .f64 (opF 1 x 0)) ∧ Grown w w' := by
  have C := Lib.hid (fun w => ldo_lit 1 1 rfl (by omega) (by omega) x 0 hx (by decide) w)
  clear hx
  go_enter Try.func26, Try.ntmps26
  go_wp2_with fail
  refine (C.out _).mono ?_; rintro e w1 ⟨rfl, hg⟩
  go_wp2_with fail
  go_ret
  exact ⟨rfl, hg⟩
theorem abs_calls (x : Nat) (hx : x < 2 ^ 64) (w : World) : Calls Try.prog 42 #[.float .f64 x] w fun e w' => e = .returned (.float .f64 (rg x)) ∧ w = w' := by
  have hb := Fl.bits_andNot hx
  clear hx
  go_enter Try.func42, Try.ntmps42
  go_wp2
  go_ret
  exact ⟨rfl, rfl⟩
theorem isinf0 (x : Nat) (b : Bool) (hx : x < 2 ^ 64) (hb : isInfB x = b) (w : World) : Calls Try.prog 28 #[.float .f64 x, .int .i64 0] w fun e w' => e = .returned (.bool b) ∧ w = w' := by
  have C := Lib.hid (fun w => abs_calls x hx w)
  have h : (FloatKind.f64.format.order (rg x) 9218868437227405311 == some .gt) = b := hb
  clear hx hb
  go_enter Try.func28, Try.ntmps28
  go_wp2_with fail
  refine (C.out _).mono ?_; rintro e w' ⟨rfl, rfl⟩
  go_wp2_with fail
  go_ret
  exact ⟨rfl, rfl⟩
theorem compare_at (x y : Nat) (n : Int) (hx : x < 2 ^ 64) (hy : y < 2 ^ 64) (h : cmpI (placeI (canon x)) (placeI (canon y)) = n) (w : World) : Calls Try.prog 27 #[.float .f64 x, .float .f64 y] w fun e w' => e = .returned (.int .i64 n) ∧ w = w' := by
  have := compare_calls x y hx hy w
  rwa [h] at this
set_option maxRecDepth 100000 in
set_option maxHeartbeats 8000000 in
theorem order_walk (x y z : Nat) (hx : x < 2 ^ 64) (hy : y < 2 ^ 64) (hz : z < 2 ^ 64) (w : World) :
    Calls Try.prog 8 #[.int .u64 (x : Int), .int .u64 (y : Int), .int .u64 (z : Int)] w fun e w' => e = .returned (.bool true) ∧ Grown w w' := by
  have HX := Lib.hid hx
  have HY := Lib.hid hy
  have HZ := Lib.hid hz
  have HL := Lib.hid (opF_lt 6 hx hy)
  have HH := Lib.hid (opF_lt 7 hx hy)
  have HYZ := Lib.hid (opF_lt 6 hy hz)
  have HYZ7 := Lib.hid (opF_lt 7 hy hz)
  have HNX := Lib.hid (opF_lt 1 hx (by decide : (0 : Nat) < 2 ^ 64))
  have HNY := Lib.hid (opF_lt 1 hy (by decide : (0 : Nat) < 2 ^ 64))
  have OM := Lib.hid (order_min hx hy hz)
  have OX := Lib.hid (order_max hx hy hz)
  have ON := Lib.hid (order_neg hx hy)
  clear hx hy hz
  go_enter Try.func8, Try.ntmps8
  go_wp2_with fail
  refine (awake_calls _).mono ?_; rintro e w1 ⟨rfl, hg⟩
  go_wp2_with fail
  refine (ldo_lit _ 6 rfl (by omega) (by omega) _ _ HX.out HY.out _).mono ?_; rintro e w2 ⟨rfl, hg2⟩
  go_wp2_with fail
  refine (ldo_lit _ 7 rfl (by omega) (by omega) _ _ HX.out HY.out _).mono ?_; rintro e w3 ⟨rfl, hg3⟩
  have hga := gtrans hg (gtrans hg2 hg3)
  clear hg hg2 hg3
  go_wp2_with fail
  refine (ldo_lit _ 6 rfl (by omega) (by omega) _ _ HL.out HZ.out _).mono ?_; rintro e w4 ⟨rfl, hg4⟩
  go_wp2_with fail
  refine (ldo_lit _ 6 rfl (by omega) (by omega) _ _ HY.out HZ.out _).mono ?_; rintro e w5 ⟨rfl, hg5⟩
  go_wp2_with fail
  refine (ldo_lit _ 6 rfl (by omega) (by omega) _ _ HX.out HYZ.out _).mono ?_; rintro e w6 ⟨rfl, hg6⟩
  have hgb := gtrans hga (gtrans hg4 (gtrans hg5 hg6))
  clear hga hg4 hg5 hg6
  go_wp2_with fail
  refine (same_lit _ _ true OM.out _).mono ?_; rintro e w' ⟨rfl, rfl⟩
  go_wp2_with fail
  refine (ldo_lit _ 7 rfl (by omega) (by omega) _ _ HH.out HZ.out _).mono ?_; rintro e w4 ⟨rfl, hg4⟩
  go_wp2_with fail
  refine (ldo_lit _ 7 rfl (by omega) (by omega) _ _ HY.out HZ.out _).mono ?_; rintro e w5 ⟨rfl, hg5⟩
  go_wp2_with fail
  refine (ldo_lit _ 7 rfl (by omega) (by omega) _ _ HX.out HYZ7.out _).mono ?_; rintro e w6 ⟨rfl, hg6⟩
  have hga := gtrans hgb (gtrans hg4 (gtrans hg5 hg6))
  clear hgb hg4 hg5 hg6
  go_wp2_with fail
  refine (same_lit _ _ true OX.out _).mono ?_; rintro e w' ⟨rfl, rfl⟩
  go_wp2_with fail
  refine (turn_calls _ HL.out _).mono ?_; rintro e w4 ⟨rfl, hg4⟩
  go_wp2_with fail
  refine (turn_calls _ HX.out _).mono ?_; rintro e w5 ⟨rfl, hg5⟩
  go_wp2_with fail
  refine (turn_calls _ HY.out _).mono ?_; rintro e w6 ⟨rfl, hg6⟩
  go_wp2_with fail
  refine (ldo_lit _ 7 rfl (by omega) (by omega) _ _ HNX.out HNY.out _).mono ?_; rintro e w7 ⟨rfl, hg7⟩
  have hgb := gtrans hga (gtrans hg4 (gtrans hg5 (gtrans hg6 hg7)))
  clear hga hg4 hg5 hg6 hg7
  go_wp2_with fail
  refine (same_lit _ _ true ON.out _).mono ?_; rintro e w' ⟨rfl, rfl⟩
  clear OM OX ON
  cases nx : nanB x with
  | true =>
    have ex := ne_of nx
    have el := ne_of (opF_nan_l (k := 6) (by omega) (by omega) HX.out HY.out nx)
    have eh := ne_of (opF_nan_l (k := 7) (by omega) (by omega) HX.out HY.out nx)
    clear nx
    go_wp2_with fail
    go_ret
    exact ⟨rfl, hgb⟩
  | false =>
    cases ny : nanB y with
    | true =>
      have ex := ne_of nx
      have ey := ne_of ny
      have el := ne_of (opF_nan_r (k := 6) (by omega) (by omega) HX.out HY.out ny)
      have eh := ne_of (opF_nan_r (k := 7) (by omega) (by omega) HX.out HY.out ny)
      clear nx ny
      go_wp2_with fail
      go_ret
      exact ⟨rfl, hgb⟩
    | false =>
      have ex := ne_of nx
      have ey := ne_of ny
      have HC := Lib.hid (compare_at (opF 6 x y) (opF 7 x y) _ HL.out HH.out rfl)
      have hcl := cmp_le HX.out HY.out nx ny
      have LW := Lib.hid (low_high HX.out HY.out nx ny)
      have SUMS := Lib.hid (fun ix iy iz => @order_sums x y z HX.out HY.out HZ.out nx ny ix iy iz)
      have IX := Lib.hid (fun h => @isInfB_false x nx h)
      have IY := Lib.hid (fun h => @isInfB_false y ny h)
      clear nx ny
      go_wp2_with fail
      refine (HC.out _).mono ?_; rintro e w' ⟨rfl, rfl⟩
      rcases LW.out with ⟨ea, eb⟩ | ⟨eu, ea, eb⟩
      · have SA := Lib.hid (show (canon (opF 6 x y) == canon x) = true by rw [ea]; simp)
        have SB := Lib.hid (show (canon (opF 7 x y) == canon y) = true by rw [eb]; simp)
        clear ea eb
        go_wp2_with fail
        refine (same_lit _ _ true SA.out _).mono ?_; rintro e w' ⟨rfl, rfl⟩
        go_wp2_with fail
        refine (same_lit _ _ true SB.out _).mono ?_; rintro e w' ⟨rfl, rfl⟩
        cases nz : nanB z with
        | true =>
          have ez := ne_of nz
          clear nz
          go_wp2_with fail
          go_ret
          exact ⟨rfl, hgb⟩
        | false =>
          have ez := ne_of nz
          have IZ := Lib.hid (fun h => @isInfB_false z nz h)
          clear nz
          cases iz : isInfB z with
          | true =>
            have HI := Lib.hid (isinf0 z true HZ.out iz)
            clear iz
            go_wp2_with fail
            refine (HI.out _).mono ?_; rintro e w' ⟨rfl, rfl⟩
            go_wp2_with fail
            go_ret
            exact ⟨rfl, hgb⟩
          | false =>
            have HI := Lib.hid (isinf0 z false HZ.out iz)
            cases ix : isInfB x with
            | true =>
              have HI2 := Lib.hid (isinf0 x true HX.out ix)
              clear iz ix
              go_wp2_with fail
              refine (HI.out _).mono ?_; rintro e w' ⟨rfl, rfl⟩
              go_wp2_with fail
              refine (HI2.out _).mono ?_; rintro e w' ⟨rfl, rfl⟩
              go_wp2_with fail
              go_ret
              exact ⟨rfl, hgb⟩
            | false =>
              have HI2 := Lib.hid (isinf0 x false HX.out ix)
              cases iy : isInfB y with
              | true =>
                have HI3 := Lib.hid (isinf0 y true HY.out iy)
                clear iz ix iy
                go_wp2_with fail
                refine (HI.out _).mono ?_; rintro e w' ⟨rfl, rfl⟩
                go_wp2_with fail
                refine (HI2.out _).mono ?_; rintro e w' ⟨rfl, rfl⟩
                go_wp2_with fail
                refine (HI3.out _).mono ?_; rintro e w' ⟨rfl, rfl⟩
                go_wp2_with fail
                go_ret
                exact ⟨rfl, hgb⟩
              | false =>
                have HI3 := Lib.hid (isinf0 y false HY.out iy)
                obtain ⟨q1, q2⟩ := SUMS.out (IX.out ix) (IY.out iy) (IZ.out iz)
                clear iz ix iy
                go_wp2_with fail
                refine (HI.out _).mono ?_; rintro e w' ⟨rfl, rfl⟩
                go_wp2_with fail
                refine (HI2.out _).mono ?_; rintro e w' ⟨rfl, rfl⟩
                go_wp2_with fail
                refine (HI3.out _).mono ?_; rintro e w' ⟨rfl, rfl⟩
                go_wp2_with fail
                refine (ldo_lit _ 2 rfl (by omega) (by omega) _ _ HL.out HZ.out _).mono ?_; rintro e w4 ⟨rfl, hg4⟩
                go_wp2_with fail
                refine (ldo_lit _ 2 rfl (by omega) (by omega) _ _ HH.out HZ.out _).mono ?_; rintro e w5 ⟨rfl, hg5⟩
                go_wp2_with fail
                refine (ldo_lit _ 3 rfl (by omega) (by omega) _ _ HZ.out HL.out _).mono ?_; rintro e w6 ⟨rfl, hg6⟩
                go_wp2_with fail
                refine (ldo_lit _ 3 rfl (by omega) (by omega) _ _ HZ.out HH.out _).mono ?_; rintro e w7 ⟨rfl, hg7⟩
                go_wp2_with fail
                go_ret
                exact ⟨rfl, gtrans hgb (gtrans hg4 (gtrans hg5 (gtrans hg6 hg7)))⟩
      · have SU := Lib.hid eu
        have SA := Lib.hid (show (canon (opF 6 x y) == canon y) = true by rw [ea]; simp)
        have SB := Lib.hid (show (canon (opF 7 x y) == canon x) = true by rw [eb]; simp)
        clear ea eb eu
        go_wp2_with fail
        refine (same_lit _ _ false SU.out _).mono ?_; rintro e w' ⟨rfl, rfl⟩
        go_wp2_with fail
        refine (same_lit _ _ true SA.out _).mono ?_; rintro e w' ⟨rfl, rfl⟩
        go_wp2_with fail
        refine (same_lit _ _ true SB.out _).mono ?_; rintro e w' ⟨rfl, rfl⟩
        cases nz : nanB z with
        | true =>
          have ez := ne_of nz
          clear nz
          go_wp2_with fail
          go_ret
          exact ⟨rfl, hgb⟩
        | false =>
          have ez := ne_of nz
          have IZ := Lib.hid (fun h => @isInfB_false z nz h)
          clear nz
          cases iz : isInfB z with
          | true =>
            have HI := Lib.hid (isinf0 z true HZ.out iz)
            clear iz
            go_wp2_with fail
            refine (HI.out _).mono ?_; rintro e w' ⟨rfl, rfl⟩
            go_wp2_with fail
            go_ret
            exact ⟨rfl, hgb⟩
          | false =>
            have HI := Lib.hid (isinf0 z false HZ.out iz)
            cases ix : isInfB x with
            | true =>
              have HI2 := Lib.hid (isinf0 x true HX.out ix)
              clear iz ix
              go_wp2_with fail
              refine (HI.out _).mono ?_; rintro e w' ⟨rfl, rfl⟩
              go_wp2_with fail
              refine (HI2.out _).mono ?_; rintro e w' ⟨rfl, rfl⟩
              go_wp2_with fail
              go_ret
              exact ⟨rfl, hgb⟩
            | false =>
              have HI2 := Lib.hid (isinf0 x false HX.out ix)
              cases iy : isInfB y with
              | true =>
                have HI3 := Lib.hid (isinf0 y true HY.out iy)
                clear iz ix iy
                go_wp2_with fail
                refine (HI.out _).mono ?_; rintro e w' ⟨rfl, rfl⟩
                go_wp2_with fail
                refine (HI2.out _).mono ?_; rintro e w' ⟨rfl, rfl⟩
                go_wp2_with fail
                refine (HI3.out _).mono ?_; rintro e w' ⟨rfl, rfl⟩
                go_wp2_with fail
                go_ret
                exact ⟨rfl, hgb⟩
              | false =>
                have HI3 := Lib.hid (isinf0 y false HY.out iy)
                obtain ⟨q1, q2⟩ := SUMS.out (IX.out ix) (IY.out iy) (IZ.out iz)
                clear iz ix iy
                go_wp2_with fail
                refine (HI.out _).mono ?_; rintro e w' ⟨rfl, rfl⟩
                go_wp2_with fail
                refine (HI2.out _).mono ?_; rintro e w' ⟨rfl, rfl⟩
                go_wp2_with fail
                refine (HI3.out _).mono ?_; rintro e w' ⟨rfl, rfl⟩
                go_wp2_with fail
                refine (ldo_lit _ 2 rfl (by omega) (by omega) _ _ HL.out HZ.out _).mono ?_; rintro e w4 ⟨rfl, hg4⟩
                go_wp2_with fail
                refine (ldo_lit _ 2 rfl (by omega) (by omega) _ _ HH.out HZ.out _).mono ?_; rintro e w5 ⟨rfl, hg5⟩
                go_wp2_with fail
                refine (ldo_lit _ 3 rfl (by omega) (by omega) _ _ HZ.out HL.out _).mono ?_; rintro e w6 ⟨rfl, hg6⟩
                go_wp2_with fail
                refine (ldo_lit _ 3 rfl (by omega) (by omega) _ _ HZ.out HH.out _).mono ?_; rintro e w7 ⟨rfl, hg7⟩
                go_wp2_with fail
                go_ret
                exact ⟨rfl, gtrans hgb (gtrans hg4 (gtrans hg5 (gtrans hg6 hg7)))⟩
end Go.Proofs.Ytompdlhhfpjebaa
