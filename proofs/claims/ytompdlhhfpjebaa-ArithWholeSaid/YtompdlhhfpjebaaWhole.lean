/- The walk of ArithWhole. -/
import Derived.Test.YtompdlhhfpjebaaWholeP
import Derived.Test.YtompdlhhfpjebaaOrder
import Derived.Deep.Cut
namespace Go.Proofs.Ytompdlhhfpjebaa
set_option linter.unusedVariables false
open Go.RowKit
open Fl (nanB canon qnan sg rg negW)
def SmallI (v : Value) : Prop := ∃ m : Int, v = .int .i64 m ∧ -67108864 < m ∧ m < 67108864
set_option maxRecDepth 100000 in
set_option maxHeartbeats 8000000 in
theorem whole_walk (a b mi : Int) (ha : 0 ≤ a) (ha2 : a ≤ 4294967295) (hb : 0 ≤ b) (hb2 : b ≤ 4294967295) (w : World) :
    Calls Try.prog 3 #[.int .u32 a, .int .u32 b, .int .u8 mi] w fun e w' => e = .returned (.bool true) ∧ Grown w w' := by
  have h1 : 0 ≤ a % 67108864 ∧ a % 67108864 < 67108864 := by omega
  have h2 : 0 ≤ b % 67108864 ∧ b % 67108864 < 67108864 := by omega
  go_enter Try.func3, Try.ntmps3
  go_wp2_with fail
  refine (awake_calls _).mono ?_; rintro e w1 ⟨rfl, hg⟩
  go_upto_if 21 with (fail)
  go_cut [7] from 13 (fun s7 wx => SmallI s7 ∧ Grown w wx)
  case first =>
    go_wp2_with fail
    all_goals (go_meet; exact ⟨⟨_, rfl, by omega, by omega⟩, hg⟩)
  case rest =>
    obtain ⟨⟨m, rfl, hm1, hm2⟩, hg2⟩ := hcut
    go_upto_if 26 with (fail)
    go_cut [8] from 13 (fun s8 wy => SmallI s8 ∧ Grown w wy)
    case first =>
      go_wp2_with fail
      all_goals (go_meet; exact ⟨⟨_, rfl, by omega, by omega⟩, hg2⟩)
    case rest =>
      obtain ⟨⟨n, rfl, hn1, hn2⟩, hg3⟩ := hcut
      clear hg hg2 h1 h2 ha ha2 hb hb2
      have hm : m.natAbs < 2 ^ 26 := by omega
      have hn : n.natAbs < 2 ^ 26 := by omega
      have HX := Lib.hid (show floatOfInt .f64 m < 2 ^ 64 from FI_lt m)
      have HY := Lib.hid (show floatOfInt .f64 n < 2 ^ 64 from FI_lt n)
      have HM := Lib.hid (show opF 4 (floatOfInt .f64 m) (floatOfInt .f64 n) < 2 ^ 64 from opF_lt 4 (FI_lt m) (FI_lt n))
      have WA : (FloatKind.f64.format.order (opF 2 (floatOfInt .f64 m) (floatOfInt .f64 n)) (floatOfInt .f64 (m + n)) != some .eq) = false := whole_add hm hn
      have WS : (FloatKind.f64.format.order (opF 3 (floatOfInt .f64 m) (floatOfInt .f64 n)) (floatOfInt .f64 (m - n)) != some .eq) = false := whole_sub hm hn
      have WM : (FloatKind.f64.format.order (opF 4 (floatOfInt .f64 m) (floatOfInt .f64 n)) (floatOfInt .f64 (m * n)) != some .eq) = false := whole_mul hm hn
      have WN : (FloatKind.f64.format.order (opF 1 (floatOfInt .f64 m) (floatOfInt .f64 n)) (floatOfInt .f64 (-m)) != some .eq) = false := whole_neg hm _
      have hp1 : m * n < 4503599627370496 ∧ -4503599627370496 < m * n := by have := prod_lt hm hn; omega
      have PL := Lib.hid (fun n0 : n ≠ 0 => (show (FloatKind.f64.format.order (opF 5 (opF 4 (floatOfInt .f64 m) (floatOfInt .f64 n)) (floatOfInt .f64 n)) (floatOfInt .f64 m) == some .eq) = true from whole_div hm hn n0))
      have MN := whole_min hm hn
      clear hm hn
      rcases Int.lt_trichotomy m n with h | h | h
      · have W6 : (FloatKind.f64.format.order (opF 6 (floatOfInt .f64 m) (floatOfInt .f64 n)) (floatOfInt .f64 m) != some .eq) = false := by have := MN.1; rwa [show min m n = m by omega] at this
        have W7 : (FloatKind.f64.format.order (opF 7 (floatOfInt .f64 m) (floatOfInt .f64 n)) (floatOfInt .f64 n) != some .eq) = false := by have := MN.2; rwa [show max m n = n by omega] at this
        clear MN
        by_cases n0 : n = 0
        · have Z0 : ((n : Int) == 0) = true := by rw [beq_iff_eq]; exact n0
          clear n0 PL
          go_wp2_with fail
          refine (ldo_lit _ 2 rfl (by omega) (by omega) _ _ HX.out HY.out _).mono ?_; rintro e q2 ⟨rfl, gq2⟩
          go_wp2_with fail
          refine (ldo_lit _ 3 rfl (by omega) (by omega) _ _ HX.out HY.out _).mono ?_; rintro e q3 ⟨rfl, gq3⟩
          go_wp2_with fail
          refine (ldo_lit _ 4 rfl (by omega) (by omega) _ _ HX.out HY.out _).mono ?_; rintro e q4 ⟨rfl, gq4⟩
          go_wp2_with fail
          refine (ldo_lit _ 6 rfl (by omega) (by omega) _ _ HX.out HY.out _).mono ?_; rintro e q6 ⟨rfl, gq6⟩
          go_wp2_with fail
          refine (ldo_lit _ 7 rfl (by omega) (by omega) _ _ HX.out HY.out _).mono ?_; rintro e q7 ⟨rfl, gq7⟩
          go_wp2_with fail
          refine (ldo_lit _ 1 rfl (by omega) (by omega) _ _ HX.out HY.out _).mono ?_; rintro e q1 ⟨rfl, gq1⟩
          go_wp2_with fail
          go_ret
          exact ⟨rfl, (gtrans hg3 (gtrans gq2 (gtrans gq3 (gtrans gq4 (gtrans gq6 (gtrans gq7 gq1))))))⟩
        · have Z0 : ((n : Int) == 0) = false := by rw [beq_eq_false_iff_ne]; exact n0
          have WD := PL.out n0
          clear n0 PL
          go_wp2_with fail
          refine (ldo_lit _ 2 rfl (by omega) (by omega) _ _ HX.out HY.out _).mono ?_; rintro e q2 ⟨rfl, gq2⟩
          go_wp2_with fail
          refine (ldo_lit _ 3 rfl (by omega) (by omega) _ _ HX.out HY.out _).mono ?_; rintro e q3 ⟨rfl, gq3⟩
          go_wp2_with fail
          refine (ldo_lit _ 4 rfl (by omega) (by omega) _ _ HX.out HY.out _).mono ?_; rintro e q4 ⟨rfl, gq4⟩
          go_wp2_with fail
          refine (ldo_lit _ 6 rfl (by omega) (by omega) _ _ HX.out HY.out _).mono ?_; rintro e q6 ⟨rfl, gq6⟩
          go_wp2_with fail
          refine (ldo_lit _ 7 rfl (by omega) (by omega) _ _ HX.out HY.out _).mono ?_; rintro e q7 ⟨rfl, gq7⟩
          go_wp2_with fail
          refine (ldo_lit _ 1 rfl (by omega) (by omega) _ _ HX.out HY.out _).mono ?_; rintro e q1 ⟨rfl, gq1⟩
          go_wp2_with fail
          refine (ldo_lit _ 4 rfl (by omega) (by omega) _ _ HX.out HY.out _).mono ?_; rintro e v1 ⟨rfl, gv1⟩
          go_wp2_with fail
          refine (ldo_lit _ 5 rfl (by omega) (by omega) _ _ HM.out HY.out _).mono ?_; rintro e v2 ⟨rfl, gv2⟩
          go_wp2_with fail
          go_ret
          exact ⟨rfl, gtrans (gtrans hg3 (gtrans gq2 (gtrans gq3 (gtrans gq4 (gtrans gq6 (gtrans gq7 gq1)))))) (gtrans gv1 gv2)⟩
      · subst h
        have WS0 := WS
        rw [Int.sub_self] at WS0
        have W6 : (FloatKind.f64.format.order (opF 6 (floatOfInt .f64 m) (floatOfInt .f64 m)) (floatOfInt .f64 m) != some .eq) = false := by have := MN.1; rwa [show min m m = m by omega] at this
        have W7 : (FloatKind.f64.format.order (opF 7 (floatOfInt .f64 m) (floatOfInt .f64 m)) (floatOfInt .f64 m) != some .eq) = false := by have := MN.2; rwa [show max m m = m by omega] at this
        clear MN
        by_cases n0 : m = 0
        · have Z0 : ((m : Int) == 0) = true := by rw [beq_iff_eq]; exact n0
          clear n0 PL
          go_wp2_with fail
          refine (ldo_lit _ 2 rfl (by omega) (by omega) _ _ HX.out HY.out _).mono ?_; rintro e q2 ⟨rfl, gq2⟩
          go_wp2_with fail
          refine (ldo_lit _ 3 rfl (by omega) (by omega) _ _ HX.out HY.out _).mono ?_; rintro e q3 ⟨rfl, gq3⟩
          go_wp2_with fail
          refine (ldo_lit _ 4 rfl (by omega) (by omega) _ _ HX.out HY.out _).mono ?_; rintro e q4 ⟨rfl, gq4⟩
          go_wp2_with fail
          refine (ldo_lit _ 6 rfl (by omega) (by omega) _ _ HX.out HY.out _).mono ?_; rintro e q6 ⟨rfl, gq6⟩
          go_wp2_with fail
          refine (ldo_lit _ 7 rfl (by omega) (by omega) _ _ HX.out HY.out _).mono ?_; rintro e q7 ⟨rfl, gq7⟩
          go_wp2_with fail
          refine (ldo_lit _ 1 rfl (by omega) (by omega) _ _ HX.out HY.out _).mono ?_; rintro e q1 ⟨rfl, gq1⟩
          go_wp2_with fail
          go_ret
          exact ⟨rfl, (gtrans hg3 (gtrans gq2 (gtrans gq3 (gtrans gq4 (gtrans gq6 (gtrans gq7 gq1))))))⟩
        · have Z0 : ((m : Int) == 0) = false := by rw [beq_eq_false_iff_ne]; exact n0
          have WD := PL.out n0
          clear n0 PL
          go_wp2_with fail
          refine (ldo_lit _ 2 rfl (by omega) (by omega) _ _ HX.out HY.out _).mono ?_; rintro e q2 ⟨rfl, gq2⟩
          go_wp2_with fail
          refine (ldo_lit _ 3 rfl (by omega) (by omega) _ _ HX.out HY.out _).mono ?_; rintro e q3 ⟨rfl, gq3⟩
          go_wp2_with fail
          refine (ldo_lit _ 4 rfl (by omega) (by omega) _ _ HX.out HY.out _).mono ?_; rintro e q4 ⟨rfl, gq4⟩
          go_wp2_with fail
          refine (ldo_lit _ 6 rfl (by omega) (by omega) _ _ HX.out HY.out _).mono ?_; rintro e q6 ⟨rfl, gq6⟩
          go_wp2_with fail
          refine (ldo_lit _ 7 rfl (by omega) (by omega) _ _ HX.out HY.out _).mono ?_; rintro e q7 ⟨rfl, gq7⟩
          go_wp2_with fail
          refine (ldo_lit _ 1 rfl (by omega) (by omega) _ _ HX.out HY.out _).mono ?_; rintro e q1 ⟨rfl, gq1⟩
          go_wp2_with fail
          refine (ldo_lit _ 4 rfl (by omega) (by omega) _ _ HX.out HY.out _).mono ?_; rintro e v1 ⟨rfl, gv1⟩
          go_wp2_with fail
          refine (ldo_lit _ 5 rfl (by omega) (by omega) _ _ HM.out HY.out _).mono ?_; rintro e v2 ⟨rfl, gv2⟩
          go_wp2_with fail
          go_ret
          exact ⟨rfl, gtrans (gtrans hg3 (gtrans gq2 (gtrans gq3 (gtrans gq4 (gtrans gq6 (gtrans gq7 gq1)))))) (gtrans gv1 gv2)⟩
      · have W6 : (FloatKind.f64.format.order (opF 6 (floatOfInt .f64 m) (floatOfInt .f64 n)) (floatOfInt .f64 n) != some .eq) = false := by have := MN.1; rwa [show min m n = n by omega] at this
        have W7 : (FloatKind.f64.format.order (opF 7 (floatOfInt .f64 m) (floatOfInt .f64 n)) (floatOfInt .f64 m) != some .eq) = false := by have := MN.2; rwa [show max m n = m by omega] at this
        clear MN
        by_cases n0 : n = 0
        · have Z0 : ((n : Int) == 0) = true := by rw [beq_iff_eq]; exact n0
          clear n0 PL
          go_wp2_with fail
          refine (ldo_lit _ 2 rfl (by omega) (by omega) _ _ HX.out HY.out _).mono ?_; rintro e q2 ⟨rfl, gq2⟩
          go_wp2_with fail
          refine (ldo_lit _ 3 rfl (by omega) (by omega) _ _ HX.out HY.out _).mono ?_; rintro e q3 ⟨rfl, gq3⟩
          go_wp2_with fail
          refine (ldo_lit _ 4 rfl (by omega) (by omega) _ _ HX.out HY.out _).mono ?_; rintro e q4 ⟨rfl, gq4⟩
          go_wp2_with fail
          refine (ldo_lit _ 6 rfl (by omega) (by omega) _ _ HX.out HY.out _).mono ?_; rintro e q6 ⟨rfl, gq6⟩
          go_wp2_with fail
          refine (ldo_lit _ 7 rfl (by omega) (by omega) _ _ HX.out HY.out _).mono ?_; rintro e q7 ⟨rfl, gq7⟩
          go_wp2_with fail
          refine (ldo_lit _ 1 rfl (by omega) (by omega) _ _ HX.out HY.out _).mono ?_; rintro e q1 ⟨rfl, gq1⟩
          go_wp2_with fail
          go_ret
          exact ⟨rfl, (gtrans hg3 (gtrans gq2 (gtrans gq3 (gtrans gq4 (gtrans gq6 (gtrans gq7 gq1))))))⟩
        · have Z0 : ((n : Int) == 0) = false := by rw [beq_eq_false_iff_ne]; exact n0
          have WD := PL.out n0
          clear n0 PL
          go_wp2_with fail
          refine (ldo_lit _ 2 rfl (by omega) (by omega) _ _ HX.out HY.out _).mono ?_; rintro e q2 ⟨rfl, gq2⟩
          go_wp2_with fail
          refine (ldo_lit _ 3 rfl (by omega) (by omega) _ _ HX.out HY.out _).mono ?_; rintro e q3 ⟨rfl, gq3⟩
          go_wp2_with fail
          refine (ldo_lit _ 4 rfl (by omega) (by omega) _ _ HX.out HY.out _).mono ?_; rintro e q4 ⟨rfl, gq4⟩
          go_wp2_with fail
          refine (ldo_lit _ 6 rfl (by omega) (by omega) _ _ HX.out HY.out _).mono ?_; rintro e q6 ⟨rfl, gq6⟩
          go_wp2_with fail
          refine (ldo_lit _ 7 rfl (by omega) (by omega) _ _ HX.out HY.out _).mono ?_; rintro e q7 ⟨rfl, gq7⟩
          go_wp2_with fail
          refine (ldo_lit _ 1 rfl (by omega) (by omega) _ _ HX.out HY.out _).mono ?_; rintro e q1 ⟨rfl, gq1⟩
          go_wp2_with fail
          refine (ldo_lit _ 4 rfl (by omega) (by omega) _ _ HX.out HY.out _).mono ?_; rintro e v1 ⟨rfl, gv1⟩
          go_wp2_with fail
          refine (ldo_lit _ 5 rfl (by omega) (by omega) _ _ HM.out HY.out _).mono ?_; rintro e v2 ⟨rfl, gv2⟩
          go_wp2_with fail
          go_ret
          exact ⟨rfl, gtrans (gtrans hg3 (gtrans gq2 (gtrans gq3 (gtrans gq4 (gtrans gq6 (gtrans gq7 gq1)))))) (gtrans gv1 gv2)⟩
end Go.Proofs.Ytompdlhhfpjebaa
