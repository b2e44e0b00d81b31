/- The walk of ArithEdges. -/
import Derived.Test.YtompdlhhfpjebaaEdges
import Derived.Deep.RegionWith
namespace Go.Proofs.Ytompdlhhfpjebaa
set_option linter.unusedVariables false
open Go.RowKit
open Fl (nanB canon qnan sg rg negW)
set_option maxRecDepth 100000 in
set_option maxHeartbeats 8000000 in
theorem edges_walk (x y : Nat) (hx : x < 2 ^ 64) (hy : y < 2 ^ 64) (w : World) :
    Calls Try.prog 7 #[.int .u64 (x : Int), .int .u64 (y : Int)] w fun e w' => e = .returned (.bool true) ∧ Grown w w' := by
  have LD := Lib.hid (fun k h1 h7 w => ldo_nat k h1 h7 x y hx hy w)
  have LC := Lib.hid (fun k h1 h7 w => by have := ldo_nat k h1 h7 (canon x) (canon y) (Fl.canon_lt hx) (Fl.canon_lt hy) w; rw [opF_canon h1 h7 hx hy] at this; exact this)
  have NL := Lib.hid (fun k h1 h7 => @opF_nan_l k x y h1 h7 hx hy)
  have NR := Lib.hid (fun k h1 h7 => @opF_nan_r k x y h1 h7 hx hy)
  have TL := Lib.hid (@tail_of x y hx hy)
  have NX := Lib.hid (fun w => negative_lit x (negB x) hx rfl w)
  have NY := Lib.hid (fun w => negative_lit y (negB y) hy rfl w)
  have NM := Lib.hid (fun k b h w => negative_lit (opF k x y) b (opF_lt k hx hy) h w)
  have KX := Lib.hid (fun k h w => kind_lit x k hx h w)
  have KY := Lib.hid (fun k h w => kind_lit y k hy h w)
  clear hx hy
  go_enter Try.func7, Try.ntmps7
  go_wp2_with fail
  refine (awake_calls _).mono ?_; rintro e w1 ⟨rfl, hg⟩
  go_wp2_with fail
  go_loopw [7] (fun o wr => ∃ k : Nat, 1 ≤ k ∧ k ≤ 8 ∧ o = .int .u8 k ∧ Grown w wr) (fun o _ => 9 - (intOf o).toNat)
  case atStart => exact ⟨1, by omega, by omega, rfl, hg⟩
  case round =>
    obtain ⟨k, hk1, hk8, rfl, hgr⟩ := hrel
    by_cases hk7 : k ≤ 7
    · have HD := Lib.hid (LD.out k hk1 hk7)
      have HC := Lib.hid (LC.out k hk1 hk7)
      have HK := Lib.hid (opF_clean k x y)
      have HS := Lib.hid (show (canon (opF k x y) == canon (opF k x y)) = true by simp)
      have hki : (k : Int) ≤ 7 := by omega
      cases nx : nanB x with
      | true =>
        have ex := ne_of nx
        have ez := eq_of (NL.out k hk1 hk7 nx)
        clear nx
        cases ny : nanB y with
        | true =>
          have ey := ne_of ny
          clear ny
          by_cases k1 : k = 1
          · have ek : ((k : Int) != 1) = false := by rw [k1]; rfl
            clear k1
            go_wp2_with fail
            refine (HD.out _).mono ?_; rintro e w2 ⟨rfl, hg2⟩
            go_wp2_with fail
            refine (clean_lit _ HK.out _).mono ?_; rintro e w' ⟨rfl, rfl⟩
            go_wp2_with fail
            refine (canon_calls _ _).mono ?_; rintro e w' ⟨rfl, rfl⟩
            go_wp2_with fail
            refine (canon_calls _ _).mono ?_; rintro e w' ⟨rfl, rfl⟩
            go_wp2_with fail
            refine (HC.out _).mono ?_; rintro e w3 ⟨rfl, hg3⟩
            go_wp2_with fail
            refine (same_lit _ _ true HS.out _).mono ?_; rintro e w' ⟨rfl, rfl⟩
            go_wp2_with fail
            go_roundw
            case rel => exact ⟨k + 1, by omega, by omega, by go_num, gtrans hgr (gtrans hg2 hg3)⟩
            case measure => simp [intOf]; omega
          · have ek : ((k : Int) != 1) = true := by rw [bne_iff_ne]; omega
            clear k1
            go_wp2_with fail
            refine (HD.out _).mono ?_; rintro e w2 ⟨rfl, hg2⟩
            go_wp2_with fail
            refine (clean_lit _ HK.out _).mono ?_; rintro e w' ⟨rfl, rfl⟩
            go_wp2_with fail
            refine (canon_calls _ _).mono ?_; rintro e w' ⟨rfl, rfl⟩
            go_wp2_with fail
            refine (canon_calls _ _).mono ?_; rintro e w' ⟨rfl, rfl⟩
            go_wp2_with fail
            refine (HC.out _).mono ?_; rintro e w3 ⟨rfl, hg3⟩
            go_wp2_with fail
            refine (same_lit _ _ true HS.out _).mono ?_; rintro e w' ⟨rfl, rfl⟩
            go_wp2_with fail
            go_roundw
            case rel => exact ⟨k + 1, by omega, by omega, by go_num, gtrans hgr (gtrans hg2 hg3)⟩
            case measure => simp [intOf]; omega
        | false =>
          have ey := ne_of ny
          clear ny
          go_wp2_with fail
          refine (HD.out _).mono ?_; rintro e w2 ⟨rfl, hg2⟩
          go_wp2_with fail
          refine (clean_lit _ HK.out _).mono ?_; rintro e w' ⟨rfl, rfl⟩
          go_wp2_with fail
          refine (canon_calls _ _).mono ?_; rintro e w' ⟨rfl, rfl⟩
          go_wp2_with fail
          refine (canon_calls _ _).mono ?_; rintro e w' ⟨rfl, rfl⟩
          go_wp2_with fail
          refine (HC.out _).mono ?_; rintro e w3 ⟨rfl, hg3⟩
          go_wp2_with fail
          refine (same_lit _ _ true HS.out _).mono ?_; rintro e w' ⟨rfl, rfl⟩
          go_wp2_with fail
          go_roundw
          case rel => exact ⟨k + 1, by omega, by omega, by go_num, gtrans hgr (gtrans hg2 hg3)⟩
          case measure => simp [intOf]; omega
      | false =>
        have ex := ne_of nx
        clear nx
        cases ny : nanB y with
        | true =>
          have ey := ne_of ny
          by_cases k1 : k = 1
          · have ek : ((k : Int) != 1) = false := by rw [k1]; rfl
            clear k1 ny
            go_wp2_with fail
            refine (HD.out _).mono ?_; rintro e w2 ⟨rfl, hg2⟩
            go_wp2_with fail
            refine (clean_lit _ HK.out _).mono ?_; rintro e w' ⟨rfl, rfl⟩
            go_wp2_with fail
            refine (canon_calls _ _).mono ?_; rintro e w' ⟨rfl, rfl⟩
            go_wp2_with fail
            refine (canon_calls _ _).mono ?_; rintro e w' ⟨rfl, rfl⟩
            go_wp2_with fail
            refine (HC.out _).mono ?_; rintro e w3 ⟨rfl, hg3⟩
            go_wp2_with fail
            refine (same_lit _ _ true HS.out _).mono ?_; rintro e w' ⟨rfl, rfl⟩
            go_wp2_with fail
            go_roundw
            case rel => exact ⟨k + 1, by omega, by omega, by go_num, gtrans hgr (gtrans hg2 hg3)⟩
            case measure => simp [intOf]; omega
          · have ek : ((k : Int) != 1) = true := by rw [bne_iff_ne]; omega
            have ez := eq_of (NR.out k (by omega) hk7 ny)
            clear k1 ny
            go_wp2_with fail
            refine (HD.out _).mono ?_; rintro e w2 ⟨rfl, hg2⟩
            go_wp2_with fail
            refine (clean_lit _ HK.out _).mono ?_; rintro e w' ⟨rfl, rfl⟩
            go_wp2_with fail
            refine (canon_calls _ _).mono ?_; rintro e w' ⟨rfl, rfl⟩
            go_wp2_with fail
            refine (canon_calls _ _).mono ?_; rintro e w' ⟨rfl, rfl⟩
            go_wp2_with fail
            refine (HC.out _).mono ?_; rintro e w3 ⟨rfl, hg3⟩
            go_wp2_with fail
            refine (same_lit _ _ true HS.out _).mono ?_; rintro e w' ⟨rfl, rfl⟩
            go_wp2_with fail
            go_roundw
            case rel => exact ⟨k + 1, by omega, by omega, by go_num, gtrans hgr (gtrans hg2 hg3)⟩
            case measure => simp [intOf]; omega
        | false =>
          have ey := ne_of ny
          clear ny
          go_wp2_with fail
          refine (HD.out _).mono ?_; rintro e w2 ⟨rfl, hg2⟩
          go_wp2_with fail
          refine (clean_lit _ HK.out _).mono ?_; rintro e w' ⟨rfl, rfl⟩
          go_wp2_with fail
          refine (canon_calls _ _).mono ?_; rintro e w' ⟨rfl, rfl⟩
          go_wp2_with fail
          refine (canon_calls _ _).mono ?_; rintro e w' ⟨rfl, rfl⟩
          go_wp2_with fail
          refine (HC.out _).mono ?_; rintro e w3 ⟨rfl, hg3⟩
          go_wp2_with fail
          refine (same_lit _ _ true HS.out _).mono ?_; rintro e w' ⟨rfl, rfl⟩
          go_wp2_with fail
          go_roundw
          case rel => exact ⟨k + 1, by omega, by omega, by go_num, gtrans hgr (gtrans hg2 hg3)⟩
          case measure => simp [intOf]; omega
    · obtain rfl : k = 8 := by omega
      cases nx : nanB x with
      | true =>
        have ex := ne_of nx
        clear nx
        go_wp2_with fail
        go_ret
        exact ⟨rfl, hgr⟩
      | false =>
        cases ny : nanB y with
        | true =>
          have ex := ne_of nx
          have ey := ne_of ny
          clear nx ny
          go_wp2_with fail
          go_ret
          exact ⟨rfl, hgr⟩
        | false =>
          obtain ⟨kx, ky, ix, zx, iy, zy, nm, nd, ns, ne, hkx, hky, h1, h2, h3, h4, h5, h6, T⟩ := TL.out nx ny
          have ex := ne_of nx
          have ey := ne_of ny
          obtain ⟨Tm, Td, Ts, Tsm, Tsd, Tlm, Tld, Tlne, Tls, Te1, Te2⟩ := T
          have em := eq_of Tm
          have em' := ne_of Tm
          have ed := eq_of Td
          have ed' := ne_of Td
          have es' := ne_of Ts
          have HKX := Lib.hid (fun w => KX.out kx hkx w)
          have HKY := Lib.hid (fun w => KY.out ky hky w)
          have A1 := Lib.hid (fun w => isinf_lit kx ix h1 w)
          have A2 := Lib.hid (fun w => isinf_lit ky iy h3 w)
          have B1 := Lib.hid (fun w => iszero_lit kx zx h2 w)
          have B2 := Lib.hid (fun w => iszero_lit ky zy h4 w)
          have SM := Lib.hid (fun h w => NM.out 4 _ (Tsm h) w)
          have SD := Lib.hid (fun h w => NM.out 5 _ (Tsd h) w)
          have E1 := Lib.hid Te1
          have E2 := Lib.hid Te2
          have L4 := Lib.hid (show ∀ w, Calls Try.prog 10 #[.int .u8 4, .float .f64 x, .float .f64 y] w (fun e w' => e = .returned (.float .f64 (opF 4 x y)) ∧ Grown w w') from fun w => LD.out 4 (by omega) (by omega) w)
          have L5 := Lib.hid (show ∀ w, Calls Try.prog 10 #[.int .u8 5, .float .f64 x, .float .f64 y] w (fun e w' => e = .returned (.float .f64 (opF 5 x y)) ∧ Grown w w') from fun w => LD.out 5 (by omega) (by omega) w)
          have L2 := Lib.hid (show ∀ w, Calls Try.prog 10 #[.int .u8 2, .float .f64 x, .float .f64 y] w (fun e w' => e = .returned (.float .f64 (opF 2 x y)) ∧ Grown w w') from fun w => LD.out 2 (by omega) (by omega) w)
          clear Tm Td Ts Tsm Tsd Te1 Te2 hkx hky h1 h2 h3 h4 nx ny KX KY NM TL NL NR LC
          cases ix <;> cases zx <;> (try (cases h5 rfl)) <;> cases iy <;> cases zy <;> (try (cases h6 rfl)) <;> clear h5 h6 <;> simp only [Bool.and_true, Bool.and_false, Bool.or_false, Bool.true_and, Bool.false_and, Bool.or_true] at Tlm Tld Tls <;> subst Tlm Tld Tls
          all_goals (try (have ene := Tlne rfl; clear Tlne; revert ene; (first | cases ne | cases ns) <;> intro ene))
          all_goals (try have SM2 := Lib.hid (fun w => SM.out rfl w))
          all_goals (try have SD2 := Lib.hid (fun w => SD.out rfl w))
          all_goals (try have EE1 := Lib.hid (beq_iff_eq.2 (E1.out rfl rfl)))
          all_goals (try have EE2 := Lib.hid (beq_iff_eq.2 (E2.out rfl rfl)))
          all_goals (try clear Tlne)
          all_goals
            go_wp2_with (first | (go_at_call_of 10 (Value.int IntKind.u8 4); refine (L4.out _).mono ?_; rintro e w3 ⟨rfl, hg3⟩) | (go_at_call_of 10 (Value.int IntKind.u8 5); refine (L5.out _).mono ?_; rintro e w4 ⟨rfl, hg4⟩) | (go_at_call_of 10 (Value.int IntKind.u8 2); refine (L2.out _).mono ?_; rintro e w5 ⟨rfl, hg5⟩) | (go_at_call_of 22 (Value.float FloatKind.f64 x); refine (NX.out _).mono ?_; rintro e w' ⟨rfl, rfl⟩) | (go_at_call_of 22 (Value.float FloatKind.f64 y); refine (NY.out _).mono ?_; rintro e w' ⟨rfl, rfl⟩) | (go_at_call_of 22 (Value.float FloatKind.f64 (opF 4 x y)); refine (SM2.out _).mono ?_; rintro e w' ⟨rfl, rfl⟩) | (go_at_call_of 22 (Value.float FloatKind.f64 (opF 5 x y)); refine (SD2.out _).mono ?_; rintro e w' ⟨rfl, rfl⟩) | (go_at_call_of 23 (Value.float FloatKind.f64 x); refine (HKX.out _).mono ?_; rintro e w' ⟨rfl, rfl⟩) | (go_at_call_of 23 (Value.float FloatKind.f64 y); refine (HKY.out _).mono ?_; rintro e w' ⟨rfl, rfl⟩) | (go_at_call_of 24 (Value.int IntKind.u8 kx); refine (A1.out _).mono ?_; rintro e w' ⟨rfl, rfl⟩) | (go_at_call_of 24 (Value.int IntKind.u8 ky); refine (A2.out _).mono ?_; rintro e w' ⟨rfl, rfl⟩) | (go_at_call_of 25 (Value.int IntKind.u8 kx); refine (B1.out _).mono ?_; rintro e w' ⟨rfl, rfl⟩) | (go_at_call_of 25 (Value.int IntKind.u8 ky); refine (B2.out _).mono ?_; rintro e w' ⟨rfl, rfl⟩) | (go_at_call 17; refine (same_lit _ _ true EE1.out _).mono ?_; rintro e w' ⟨rfl, rfl⟩) | (go_at_call 17; refine (same_lit _ _ true EE2.out _).mono ?_; rintro e w' ⟨rfl, rfl⟩))
            go_ret
            exact ⟨rfl, gtrans hgr (gtrans hg3 (gtrans hg4 hg5))⟩
end Go.Proofs.Ytompdlhhfpjebaa
