/- The walk of ArithEdges. -/
import Derived.Test.YtompdlhhfpjebaaEdgesP
import Derived.Test.YtompdlhhfpjebaaLaws
namespace Go.Proofs.Ytompdlhhfpjebaa
set_option linter.unusedVariables false
open Go.RowKit
open Fl (nanB canon qnan sg rg negW)
theorem ne_of {x : Nat} {b : Bool} (h : nanB x = b) : (FloatKind.f64.format.order x x != some .eq) = b := h
theorem eq_of {x : Nat} {b : Bool} (h : nanB x = b) : (FloatKind.f64.format.order x x == some .eq) = !b := by
  have h2 : (FloatKind.f64.format.order x x != some .eq) = b := h
  rw [← h2]; simp [bne]
theorem ldo_nat (k : Nat) (h1 : 1 ≤ k) (h7 : k ≤ 7) (x y : Nat) (hx : x < 2 ^ 64) (hy : y < 2 ^ 64) (w : World) :
    Calls Try.prog 10 #[.int .u8 (k : Int), .float .f64 x, .float .f64 y] w fun e w' => e = .returned (.float .f64 (opF k x y)) ∧ Grown w w' := by
  have := ldo_calls (k : Int) (by omega) (by omega) x y hx hy w
  rwa [Int.toNat_natCast] at this
theorem clean_lit (x : Nat) (h : (!nanB x || x == qnan) = true) (w : World) : Calls Try.prog 20 #[.float .f64 x] w fun e w' => e = .returned (.bool true) ∧ w = w' := by
  have := clean_calls x w
  rwa [h] at this
theorem negative_lit (x : Nat) (b : Bool) (hx : x < 2 ^ 64) (h : negB x = b) (w : World) : Calls Try.prog 22 #[.float .f64 x] w fun e w' => e = .returned (.bool b) ∧ w = w' := by
  have := negative_calls x hx w
  rwa [h] at this
theorem kind_lit (x : Nat) (k : Int) (hx : x < 2 ^ 64) (h : kindI (rg x) = k) (w : World) : Calls Try.prog 23 #[.float .f64 x] w fun e w' => e = .returned (.int .u8 k) ∧ w = w' := by
  have := kind_calls x hx w
  rwa [h] at this
theorem isinf_lit (k : Int) (b : Bool) (h : (k == 2) = b) (w : World) : Calls Try.prog 24 #[.int .u8 k] w fun e w' => e = .returned (.bool b) ∧ w = w' := by
  go_enter Try.func24, Try.ntmps24
  go_wp2
  go_ret
  exact ⟨rfl, rfl⟩
theorem iszero_lit (k : Int) (b : Bool) (h : (k == 3) = b) (w : World) : Calls Try.prog 25 #[.int .u8 k] w fun e w' => e = .returned (.bool b) ∧ w = w' := by
  go_enter Try.func25, Try.ntmps25
  go_wp2
  go_ret
  exact ⟨rfl, rfl⟩
/-- One round: what the loop's body needs. -/
theorem kind_cls (r : Nat) (h : r ≤ Fl.INF) : (r = Fl.INF ∧ kindI r = 2) ∨ (r = 0 ∧ kindI r = 3) ∨ (r ≠ Fl.INF ∧ r ≠ 0 ∧ (kindI r == 2) = false ∧ (kindI r == 3) = false) := by
  unfold kindI
  unfold Fl.INF at *
  by_cases h1 : r = 9218868437227405312
  · left; refine ⟨h1, ?_⟩; rw [if_neg (by omega), if_pos h1]
  · by_cases h2 : r = 0
    · right; left; refine ⟨h2, ?_⟩; rw [if_neg (by omega), if_neg h1, if_pos h2]
    · right; right
      refine ⟨h1, h2, ?_⟩
      rw [if_neg (by omega), if_neg h1, if_neg h2]
      split <;> decide
/-- What the last part of the law asks: of classes (a, b: infinite, zero) of both numbers, the product's, the quotient's and the sum's. -/
structure Tail (x y : Nat) (ix zx iy zy nm nd ns : Bool) (ne : Bool) : Prop where
  m : nanB (opF 4 x y) = nm
  d : nanB (opF 5 x y) = nd
  s : nanB (opF 2 x y) = ns
  sm : nm = false → negB (opF 4 x y) = !(negB x == negB y)
  sd : nd = false → negB (opF 5 x y) = !(negB x == negB y)
  lm : nm = (ix && zy || zx && iy)
  ld : nd = (ix && iy || zx && zy)
  lne : (ix && iy) = true → (FloatKind.f64.format.order x y != some .eq) = ne
  ls : ns = (ix && iy && ne)
  e1 : ix = true → ns = false → canon (opF 2 x y) = canon x
  e2 : zy = true → zx = false → canon (opF 2 x y) = canon x

theorem negB_num {x : Nat} (h : nanB x = false) : negB x = sg x := by unfold negB; rw [h]; rfl
theorem xor_ne (a b : Bool) : (a ^^ b) = !(a == b) := by cases a <;> cases b <;> rfl
theorem opt_num {o : Option Nat} {r : Nat} (h : o = some r) (hn : nanB r = false) : opt o = r ∧ nanB (opt o) = false := by
  subst h; have : opt (some r) = r := canon_num hn; rw [this]; exact ⟨rfl, hn⟩
theorem tail_of {x y : Nat} (hx : x < 2 ^ 64) (hy : y < 2 ^ 64) (nx : nanB x = false) (ny : nanB y = false) :
    ∃ kx ky : Int, ∃ ix zx iy zy nm nd ns ne : Bool, kindI (rg x) = kx ∧ kindI (rg y) = ky ∧ (kx == 2) = ix ∧ (kx == 3) = zx ∧ (ky == 2) = iy ∧ (ky == 3) = zy ∧
      (ix = true → zx = false) ∧ (iy = true → zy = false) ∧ Tail x y ix zx iy zy nm nd ns ne := by
  have rx := Fl.nanB_false.1 nx
  have ry := Fl.nanB_false.1 ny
  have hxl : negB x = sg x := negB_num nx
  have hyl : negB y = sg y := negB_num ny
  have hz : (0 : Nat) ≠ Fl.INF := by decide
  rcases kind_cls _ rx with ⟨a, ka⟩ | ⟨a, ka⟩ | ⟨a1, a2, ka1, ka2⟩ <;> rcases kind_cls _ ry with ⟨b, kb⟩ | ⟨b, kb⟩ | ⟨b1, b2, kb1, kb2⟩
  · -- inf, inf
    have M := cls_opt (Fl.mul_some rx ry (by omega) (by omega))
    have ho : FloatKind.f64.format.order x y = some (compare (Fl.key x) (Fl.key y)) := Fl.order_key rx ry
    by_cases hs : sg x = sg y
    · have S := opt_num (Fl.add_inf_inf hx a b hs) nx
      refine ⟨2, 2, true, false, true, false, false, true, false, false, ka, kb, rfl, rfl, rfl, rfl, fun _ => rfl, fun _ => rfl, ⟨M.1, nan_opt (Fl.div_none (.inl ⟨a, b⟩)), S.2, fun _ => ?_, (nofun), rfl, rfl, fun _ => ?_, rfl, fun _ _ => ?_, (nofun)⟩⟩
      · rw [hxl, hyl, ← xor_ne]; exact M.2
      · have : Fl.key x = Fl.key y := by unfold Fl.key; rw [hs, a, b]
        rw [ho, this]; simp
      · show canon (opt _) = canon x
        rw [S.1]
    · refine ⟨2, 2, true, false, true, false, false, true, true, true, ka, kb, rfl, rfl, rfl, rfl, fun _ => rfl, fun _ => rfl, ⟨M.1, nan_opt (Fl.div_none (.inl ⟨a, b⟩)), nan_opt (Fl.add_inf_opp a b hs), fun _ => ?_, (nofun), rfl, rfl, fun _ => ?_, rfl, (nofun), (nofun)⟩⟩
      · rw [hxl, hyl, ← xor_ne]; exact M.2
      · have hne : Fl.key x ≠ Fl.key y := by
          unfold Fl.key Fl.vals; rw [a, b]
          unfold Fl.INF
          revert hs
          cases sg x <;> cases sg y <;> simp
        rw [ho]
        simp [bne, hne]
  · -- inf, zero
    have D := cls_opt (Fl.div_some rx ry (by omega) (by omega))
    have S := opt_num (Fl.add_inf_fin hx a (y := y) (by omega)) nx
    refine ⟨2, 3, true, false, false, true, true, false, false, false, ka, kb, rfl, rfl, rfl, rfl, fun _ => rfl, (nofun), ⟨nan_opt (Fl.mul_none (.inl ⟨a, b⟩)), D.1, S.2, (nofun), fun _ => ?_, rfl, rfl, (nofun), rfl, fun _ _ => ?_, fun _ _ => ?_⟩⟩
    · rw [hxl, hyl, ← xor_ne]; exact D.2
    · show canon (opt _) = canon x; rw [S.1]
    · show canon (opt _) = canon x; rw [S.1]
  · -- inf, other
    have M := cls_opt (Fl.mul_some rx ry (by omega) (by omega))
    have D := cls_opt (Fl.div_some rx ry (by omega) (by omega))
    have S := opt_num (Fl.add_inf_fin hx a (y := y) (by omega)) nx
    refine ⟨2, _, true, false, false, false, false, false, false, false, ka, rfl, rfl, rfl, kb1, kb2, fun _ => rfl, fun _ => rfl, ⟨M.1, D.1, S.2, fun _ => ?_, fun _ => ?_, rfl, rfl, (nofun), rfl, fun _ _ => ?_, (nofun)⟩⟩
    · rw [hxl, hyl, ← xor_ne]; exact M.2
    · rw [hxl, hyl, ← xor_ne]; exact D.2
    · show canon (opt _) = canon x; rw [S.1]
  · -- zero, inf
    have D := cls_opt (Fl.div_some rx ry (by omega) (by omega))
    have S := opt_num (Fl.add_fin_inf hy (x := x) (by omega) b) ny
    refine ⟨3, 2, false, true, true, false, true, false, false, false, ka, kb, rfl, rfl, rfl, rfl, (nofun), fun _ => rfl, ⟨nan_opt (Fl.mul_none (.inr ⟨a, b⟩)), D.1, S.2, (nofun), fun _ => ?_, rfl, rfl, (nofun), rfl, (nofun), (nofun)⟩⟩
    · rw [hxl, hyl, ← xor_ne]; exact D.2
  · -- zero, zero
    have M := cls_opt (Fl.mul_some rx ry (by omega) (by omega))
    obtain ⟨r, hr, hn⟩ := Fl.add_fin_fin (x := x) (y := y) (by omega) (by omega)
    have S := opt_num hr hn
    refine ⟨3, 3, false, true, false, true, false, true, false, false, ka, kb, rfl, rfl, rfl, rfl, (nofun), (nofun), ⟨M.1, nan_opt (Fl.div_none (.inr ⟨a, b⟩)), S.2, fun _ => ?_, (nofun), rfl, rfl, (nofun), rfl, (nofun), (nofun)⟩⟩
    · rw [hxl, hyl, ← xor_ne]; exact M.2
  · -- zero, other
    have M := cls_opt (Fl.mul_some rx ry (by omega) (by omega))
    have D := cls_opt (Fl.div_some rx ry (by omega) (by omega))
    obtain ⟨r, hr, hn⟩ := Fl.add_fin_fin (x := x) (y := y) (by omega) (by omega)
    have S := opt_num hr hn
    refine ⟨3, _, false, true, false, false, false, false, false, false, ka, rfl, rfl, rfl, kb1, kb2, (nofun), (nofun), ⟨M.1, D.1, S.2, fun _ => ?_, fun _ => ?_, rfl, rfl, (nofun), rfl, (nofun), (nofun)⟩⟩
    · rw [hxl, hyl, ← xor_ne]; exact M.2
    · rw [hxl, hyl, ← xor_ne]; exact D.2
  · -- other, inf
    have M := cls_opt (Fl.mul_some rx ry (by omega) (by omega))
    have D := cls_opt (Fl.div_some rx ry (by omega) (by omega))
    have S := opt_num (Fl.add_fin_inf hy (x := x) (by omega) b) ny
    refine ⟨_, 2, false, false, true, false, false, false, false, false, rfl, kb, ka1, ka2, rfl, rfl, (nofun), fun _ => rfl, ⟨M.1, D.1, S.2, fun _ => ?_, fun _ => ?_, rfl, rfl, (nofun), rfl, (nofun), (nofun)⟩⟩
    · rw [hxl, hyl, ← xor_ne]; exact M.2
    · rw [hxl, hyl, ← xor_ne]; exact D.2
  · -- other, zero
    have M := cls_opt (Fl.mul_some rx ry (by omega) (by omega))
    have D := cls_opt (Fl.div_some rx ry (by omega) (by omega))
    have S := opt_num (Fl.add_fin_zero hx (y := y) (by omega) a2 b) nx
    refine ⟨_, 3, false, false, false, true, false, false, false, false, rfl, kb, ka1, ka2, rfl, rfl, (nofun), (nofun), ⟨M.1, D.1, S.2, fun _ => ?_, fun _ => ?_, rfl, rfl, (nofun), rfl, (nofun), fun _ _ => ?_⟩⟩
    · rw [hxl, hyl, ← xor_ne]; exact M.2
    · rw [hxl, hyl, ← xor_ne]; exact D.2
    · show canon (opt _) = canon x; rw [S.1]
  · -- other, other
    have M := cls_opt (Fl.mul_some rx ry (by omega) (by omega))
    have D := cls_opt (Fl.div_some rx ry (by omega) (by omega))
    obtain ⟨r, hr, hn⟩ := Fl.add_fin_fin (x := x) (y := y) (by omega) (by omega)
    have S := opt_num hr hn
    refine ⟨_, _, false, false, false, false, false, false, false, false, rfl, rfl, ka1, ka2, kb1, kb2, (nofun), (nofun), ⟨M.1, D.1, S.2, fun _ => ?_, fun _ => ?_, rfl, rfl, (nofun), rfl, (nofun), (nofun)⟩⟩
    · rw [hxl, hyl, ← xor_ne]; exact M.2
    · rw [hxl, hyl, ← xor_ne]; exact D.2
end Go.Proofs.Ytompdlhhfpjebaa
