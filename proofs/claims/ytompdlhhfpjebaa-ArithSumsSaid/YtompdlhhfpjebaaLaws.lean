/- The walk of ArithLaws. -/
import Derived.Test.YtompdlhhfpjebaaLawsP
namespace Go.Proofs.Ytompdlhhfpjebaa
set_option linter.unusedVariables false
open Go.RowKit
open Fl (nanB canon qnan sg rg negW)
theorem wits_lt (k : Nat) : (wits k).1 < 2 ^ 64 ∧ (wits k).2.1 < 2 ^ 64 := by
  unfold wits
  split <;> exact ⟨by decide, by decide⟩
theorem same_lit (x y : Nat) (b : Bool) (h : (canon x == canon y) = b) (w : World) : Calls Try.prog 17 #[.float .f64 x, .float .f64 y] w fun e w' => e = .returned (.bool b) ∧ w = w' := by
  have := same_calls x y w
  rwa [h] at this
set_option maxRecDepth 100000 in
set_option maxHeartbeats 4000000 in
theorem laws_walk (a b c : Nat) (ha : a < 2 ^ 64) (hb : b < 2 ^ 64) (hc : c < 2 ^ 64) (w : World) :
    Calls Try.prog 5 #[.int .u64 (a : Int), .int .u64 (b : Int), .int .u64 (c : Int)] w fun e w' => e = .returned (.bool true) ∧ Grown w w' := by
  have hx := Fl.canon_lt ha
  have hy := Fl.canon_lt hb
  have LH := Lib.hid (law_holds (canon a) (canon b) (canon c) hx hy (Fl.canon_lt hc))
  have SY := Lib.hid (fun k hk w => sides_yes k hk a b c ha hb w)
  clear ha hb hc hx hy
  go_enter Try.func5, Try.ntmps5
  go_wp2_with fail
  refine (awake_calls _).mono ?_; rintro e w1 ⟨rfl, hg⟩
  go_wp2_with fail
  go_loopw [10, 11] (fun n l wr => ∃ k : Nat, k ≤ 24 ∧ l = .int .i64 (k + 1) ∧ n = .int .i64 (cnt k) ∧ Grown w wr) (fun _ l _ => 25 - (intOf l).toNat)
  case atStart => exact ⟨0, by omega, rfl, rfl, hg⟩
  case round =>
    obtain ⟨k, hk, rfl, rfl, hgr⟩ := hrel
    have hcl := cnt_le k
    by_cases hk2 : k < 24
    · cases hh : holdsB k with
      | true =>
        have HY := Lib.hid (fun w => by have := holds_yes k hk2 w; rw [hh] at this; exact this)
        have HS := Lib.hid (show (canon (sidesF k (canon a) (canon b) (canon c)).1 == canon (sidesF k (canon a) (canon b) (canon c)).2) = true by rw [beq_iff_eq]; exact LH.out k hk2 hh)
        have HC := Lib.hid (show cnt (k + 1) = cnt k + 1 by rw [cnt_succ, hh]; rfl)
        clear hh
        go_wp2_with fail
        refine (HY.out _).mono ?_; rintro e w2 ⟨rfl, hg2⟩
        go_wp2_with fail
        refine (SY.out k hk2 _).mono ?_; rintro e w3 ⟨rfl, hg3⟩
        go_wp2_with fail
        refine (same_lit _ _ true HS.out _).mono ?_; rintro e w4 ⟨rfl, rfl⟩
        go_wp2_with fail
        go_roundw
        case rel => exact ⟨k + 1, by omega, by go_num, by rw [HC.out]; go_num, gtrans hgr (gtrans hg2 hg3)⟩
        case measure => simp [intOf]; omega
      | false =>
        have HY := Lib.hid (fun w => by have := holds_yes k hk2 w; rw [hh] at this; exact this)
        have HW := Lib.hid (fun w => witness_yes k hk2 hh w)
        have HS := Lib.hid (show (canon (sidesF k (canon (wits k).1) (canon (wits k).2.1) (canon (wits k).2.2)).1 == canon (sidesF k (canon (wits k).1) (canon (wits k).2.1) (canon (wits k).2.2)).2) = false by
          have := law_fails k hk2 hh
          unfold notSame at this
          rw [bne_iff_ne] at this
          rw [beq_eq_false_iff_ne]; exact this)
        have HC := Lib.hid (show cnt (k + 1) = cnt k by rw [cnt_succ, hh]; rfl)
        have HB := Lib.hid (wits_lt k)
        clear hh
        go_wp2_with fail
        refine (HY.out _).mono ?_; rintro e w2 ⟨rfl, hg2⟩
        go_wp2_with fail
        refine (SY.out k hk2 _).mono ?_; rintro e w3 ⟨rfl, hg3⟩
        go_wp2_with fail
        refine (HW.out _).mono ?_; rintro e w4 ⟨rfl, hg4⟩
        go_wp2_with fail
        refine (sides_yes k hk2 _ _ _ HB.out.1 HB.out.2 _).mono ?_; rintro e w5 ⟨rfl, hg5⟩
        go_wp2_with fail
        refine (same_lit _ _ false HS.out _).mono ?_; rintro e w6 ⟨rfl, rfl⟩
        go_wp2_with fail
        go_roundw
        case rel => exact ⟨k + 1, by omega, by go_num, by rw [HC.out], gtrans hgr (gtrans hg2 (gtrans hg3 (gtrans hg4 hg5)))⟩
        case measure => simp [intOf]; omega
    · obtain rfl : k = 24 := by omega
      have hc24 : (((cnt 24 : Nat) : Int) == 13) = true := by rw [cnt_24]; rfl
      go_wp2_with fail
      go_ret
      exact ⟨rfl, hgr⟩
end Go.Proofs.Ytompdlhhfpjebaa
