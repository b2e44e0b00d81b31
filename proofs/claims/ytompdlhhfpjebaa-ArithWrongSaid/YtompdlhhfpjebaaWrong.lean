/- The walk of ArithWrong. -/
import Derived.Test.YtompdlhhfpjebaaN
namespace Go.Proofs.Ytompdlhhfpjebaa
set_option linter.unusedVariables false
open Go.RowKit
open Fl (nanB canon qnan sg rg negW)
theorem zero_eq : (FloatKind.f64.format.order 0 0 != some .eq) = false := by decide +kernel
def Two (B : Nat) (w wr : World) (k : Nat) (c d : Value) : Prop := k ≤ 2 ∧ wr.cell? ⟨B, 0, none⟩ = some c ∧ wr.cell? ⟨B, 1, none⟩ = some d ∧ Grown w wr
theorem Two.next {B : Nat} {w wr w2 : World} {k : Nat} {c d : Value} (h : Two B w wr k c d) (hk : k < 2) (hg : Grown wr w2) : Two B w w2 (k + 1) c d :=
  ⟨hk, cell_grown h.2.1 hg, cell_grown h.2.2.1 hg, gtrans h.2.2.2 hg⟩
set_option maxRecDepth 100000 in
set_option maxHeartbeats 4000000 in
theorem wrong_walk (a b : Nat) (op n : Int) (ha : a < 2 ^ 64) (hb : b < 2 ^ 64) (h0 : 0 ≤ op) (h1 : op ≤ 255) (w : World) :
    Calls Try.prog 4 #[.int .u64 (a : Int), .int .u64 (b : Int), .int .u8 op, .int .i64 n] w fun e w' => e = .returned (.bool true) ∧ Grown w w' := by
  have hz := zero_eq
  go_enter Try.func4, Try.ntmps4
  go_wp2_with fail
  refine (awake_calls _).mono ?_; rintro e w1 ⟨rfl, hg⟩
  go_wp2_with fail
  all_goals
    go_loopw [36] (fun i wr => ∃ (k : Nat) (m : Int), 8 ≤ m ∧ m ≤ 255 ∧ i = .int .i64 k ∧ Two w1.heap.size w wr k (.int .u8 0) (.int .u8 m)) (fun i _ => 2 - (intOf i).toNat)
    case atStart => first | exact ⟨0, op, by omega, by omega, rfl, by omega, by go_simp, by go_simp, by go_grown⟩ | exact ⟨0, 8, by omega, by omega, rfl, by omega, by go_simp, by go_simp, by go_grown⟩
    case round =>
      obtain ⟨k, m, hm1, hm2, rfl, hT⟩ := hrel
      obtain ⟨hk, hc0, hc1, hgr⟩ := id hT
      have HT := Lib.hid hT
      clear hT
      by_cases hk2 : k < 2
      · have hk3 : k = 0 ∨ k = 1 := by omega
        rcases hk3 with rfl | rfl
        all_goals
          go_wp2_with fail
          refine (apply_no _ (by omega) _ _ _).mono ?_; rintro e w2 ⟨rfl, hg2⟩
          go_wp2_with fail
          refine (name_no _ (by omega) _).mono ?_; rintro e w3 ⟨rfl, hg3⟩
          go_wp2_with fail
          go_roundw
          case rel => exact ⟨_, m, hm1, hm2, rfl, HT.out.next hk2 (gtrans hg2 hg3)⟩
          case measure => simp [intOf]
      · obtain rfl : k = 2 := by omega
        go_wp2_with fail
        all_goals
          go_loopw [65] (fun i wq => ∃ (k : Nat) (p q : Int), p ≤ 0 ∧ 25 ≤ q ∧ i = .int .i64 k ∧ Two wr.heap.size w wq k (.int .i64 p) (.int .i64 q)) (fun i _ => 2 - (intOf i).toNat)
          case atStart => first | exact ⟨0, n, n, by omega, by omega, rfl, by omega, by go_simp, by go_simp, by go_grown⟩ | exact ⟨0, 0, n, by omega, by omega, rfl, by omega, by go_simp, by go_simp, by go_grown⟩ | exact ⟨0, n, 25, by omega, by omega, rfl, by omega, by go_simp, by go_simp, by go_grown⟩ | exact ⟨0, 0, 25, by omega, by omega, rfl, by omega, by go_simp, by go_simp, by go_grown⟩
          case round =>
            obtain ⟨k, p, q, hp, hq, rfl, hT⟩ := hrel
            obtain ⟨hk, hc0, hc1, hgr⟩ := id hT
            have HT := Lib.hid hT
            clear hT
            by_cases hk2 : k < 2
            · have hk3 : k = 0 ∨ k = 1 := by omega
              rcases hk3 with rfl | rfl
              all_goals
                go_wp2_with fail
                refine (sides_no _ (by omega) _ _ _ _).mono ?_; rintro e w2 ⟨rfl, hg2⟩
                go_wp2_with fail
                refine (holds_no _ (by omega) _).mono ?_; rintro e w3 ⟨rfl, hg3⟩
                go_wp2_with fail
                refine (witness_no _ (by omega) _).mono ?_; rintro e w4 ⟨rfl, hg4⟩
                go_wp2_with fail
                go_roundw
                case rel => exact ⟨_, p, q, hp, hq, rfl, HT.out.next hk2 (gtrans hg2 (gtrans hg3 hg4))⟩
                case measure => simp [intOf]
            · obtain rfl : k = 2 := by omega
              go_wp2_with fail
              go_ret
              exact ⟨rfl, hgr⟩
end Go.Proofs.Ytompdlhhfpjebaa
