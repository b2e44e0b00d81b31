/- Plain facts on sums, products and quotients of words. No program. -/
import Derived.Test.YtompdlhhfpjebaaFlb
namespace Go.Proofs.Ytompdlhhfpjebaa.Fl
set_option linter.unusedVariables false
open Ieee

theorem add_nan_l {x y : Nat} (h : nanB x = true) : double.add x y = none := by
  unfold Format.add; rw [read_nan (nanB_true.1 h)]; rfl
theorem add_nan_r {x y : Nat} (h : nanB y = true) : double.add x y = none := by rw [add_comm, add_nan_l h]
theorem mul_nan_l {x y : Nat} (h : nanB x = true) : double.mul x y = none := by
  unfold Format.mul; rw [read_nan (nanB_true.1 h)]; rfl
theorem mul_nan_r {x y : Nat} (h : nanB y = true) : double.mul x y = none := by rw [mul_comm, mul_nan_l h]
theorem div_nan_l {x y : Nat} (h : nanB x = true) : double.div x y = none := by
  unfold Format.div; rw [read_nan (nanB_true.1 h)]; rfl
theorem div_nan_r {x y : Nat} (h : nanB y = true) : double.div x y = none := by
  unfold Format.div; rw [read_nan (nanB_true.1 h)]; cases double.read x <;> rfl
theorem sub_nan_l {x y : Nat} (h : nanB x = true) : double.sub x y = none := by
  unfold Format.sub; rw [read_nan (nanB_true.1 h)]; rfl
theorem sub_nan_r {x y : Nat} (hy : y < 2 ^ 64) (h : nanB y = true) : double.sub x y = none := by
  rw [sub_eq_add hy]; exact add_nan_r (by rw [nanB_neg hy]; exact h)

theorem wd_of {x : Nat} (h : x < 2 ^ 64) {r : Nat} (hr : rg x = r) : wd (sg x) r = x := by rw [← hr]; exact wd_sg_rg h
theorem write_inf (s : Bool) : double.write (.infinity s) = wd s INF := by
  show double.word _ _ = _
  rw [word_eq, dbl_inf]

/-- x + -0 = x. -/
theorem add_nz {x : Nat} (hx : x < 2 ^ 64) (hn : nanB x = false) : double.add x SGN = some x := by
  have hr := nanB_false.1 hn
  by_cases hi : rg x = INF
  · have : double.add x SGN = some (double.write (.infinity (sg x))) := by
      unfold Format.add; rw [read_inf hi]; rfl
    rw [this, write_inf, wd_of hx hi]
  · have hV : V SGN = 0 := by decide
    rw [add_fin (by omega) (by decide), hV, Int.add_zero]
    have hs : sg SGN = true := by decide
    rw [hs, Bool.and_true]
    unfold V enc
    rw [vals_natAbs, R_val hr]
    congr 1
    have hz := val_zero hr
    by_cases h0 : rg x = 0
    · rw [if_pos (by rw [hz.2 h0]; unfold vals; split <;> rfl)]
      exact wd_sg_rg hx
    · have hne : val (rg x) ≠ 0 := fun e => h0 (hz.1 e)
      rw [if_neg (by unfold vals; split <;> omega)]
      have : decide (vals (sg x) (val (rg x)) < 0) = sg x := by
        unfold vals
        cases sg x <;> simp <;> omega
      rw [this]
      exact wd_sg_rg hx

def ONE : Nat := 4607182418800017408
def MONE : Nat := 13830554455654793216
theorem read_one : double.read ONE = .number false (2 ^ 52) (-52) := by decide +kernel
theorem read_mone : double.read MONE = .number true (2 ^ 52) (-52) := by decide +kernel

theorem read_number {x : Nat} (hx : x < 2 ^ 64) {s : Bool} {m : Nat} {p : Int} (h : double.read x = .number s m p) : s = sg x ∧ double.nearest s m p = x := by
  have hn : rg x < INF := by
    by_cases h1 : rg x < INF
    · exact h1
    · by_cases h2 : rg x = INF
      · rw [read_inf h2] at h; cases h
      · rw [read_nan (by omega)] at h; cases h
  obtain ⟨m', p', e, -⟩ := read_fin hn
  rw [e] at h
  cases h
  refine ⟨rfl, ?_⟩
  have := write_read hx (nanB_false.2 (by omega))
  rwa [e] at this

theorem mul_one {x : Nat} (hx : x < 2 ^ 64) (hn : nanB x = false) : double.mul x ONE = some x := by
  have hr := nanB_false.1 hn
  by_cases hi : rg x = INF
  · have : double.mul x ONE = some (double.write (.infinity (sg x))) := by
      unfold Format.mul; rw [read_inf hi, read_one]; simp [Datum.product]
    rw [this, write_inf, wd_of hx hi]
  · obtain ⟨m, p, e, -⟩ := read_fin (x := x) (by omega)
    obtain ⟨-, hw⟩ := read_number hx e
    unfold Format.mul
    rw [e, read_one]
    simp only [Datum.product, Option.map_some, Bool.xor_false, Option.some.injEq]
    show double.nearest _ _ _ = _
    have := nearest_scale (sg x) m 52 p
    rw [show (p + -52 : Int) = p - ((52 : Nat) : Int) by omega, this, hw]

theorem nearest_neg (s : Bool) (m : Nat) (p : Int) {x : Nat} (hx : x < 2 ^ 64) (h : double.nearest s m p = x) : double.nearest (!s) m p = negW x := by
  rw [nearest_eq] at h ⊢
  have hlt : (if p ≤ -1074 then Rq (-1074 - p).toNat m else Rq 0 (m * 2 ^ (p + 1074).toNat)) < SGN := by
    split <;> exact Nat.lt_of_le_of_lt (Rq_le_inf _ _) INF_lt
  generalize (if p ≤ -1074 then Rq (-1074 - p).toNat m else Rq 0 (m * 2 ^ (p + 1074).toNat)) = r at *
  rw [negW_eq hx, ← h, sg_wd _ hlt, rg_wd _ hlt]

theorem mul_mone {x : Nat} (hx : x < 2 ^ 64) (hn : nanB x = false) : double.mul x MONE = some (negW x) := by
  have hr := nanB_false.1 hn
  by_cases hi : rg x = INF
  · have : double.mul x MONE = some (double.write (.infinity (!sg x))) := by
      unfold Format.mul; rw [read_inf hi, read_mone]; simp [Datum.product]
    rw [this, write_inf, negW_eq hx, hi]
  · obtain ⟨m, p, e, -⟩ := read_fin (x := x) (by omega)
    obtain ⟨-, hw⟩ := read_number hx e
    unfold Format.mul
    rw [e, read_mone]
    simp only [Datum.product, Option.map_some, Bool.xor_true, Option.some.injEq]
    show double.nearest _ _ _ = _
    have := nearest_scale (!sg x) m 52 p
    rw [show (p + -52 : Int) = p - ((52 : Nat) : Int) by omega, this]
    exact nearest_neg _ _ _ hx hw

theorem div_one {x : Nat} (hx : x < 2 ^ 64) (hn : nanB x = false) : double.div x ONE = some x := by
  have hr := nanB_false.1 hn
  by_cases hi : rg x = INF
  · have : double.div x ONE = some (double.write (.infinity (sg x))) := by
      unfold Format.div; rw [read_inf hi, read_one]; simp [Datum.quotient]
    rw [this, write_inf, wd_of hx hi]
  · obtain ⟨m, p, e, hp, -, hm, -⟩ := read_fin (x := x) (by omega)
    obtain ⟨-, hw⟩ := read_number hx e
    unfold Format.div
    rw [e, read_one]
    have hl : (2 ^ 52 : Nat).log2 = 52 := by decide +kernel
    have hlm := log2_small hm
    simp only [Datum.quotient, hl, Bool.xor_false]
    rw [show double.fractionBits + 2 + 52 - m.log2 = (54 - m.log2) + 52 from by show 52 + 2 + 52 - m.log2 = _; omega]
    rw [if_neg (by decide), Nat.shiftLeft_eq, Nat.pow_add, ← Nat.mul_assoc, Nat.mul_div_cancel _ (by decide), Nat.mul_mod_left]
    simp only [bne_self_eq_false, Bool.toNat_false, Nat.add_zero, Option.map_some, Option.some.injEq]
    show double.nearest _ _ _ = _
    generalize 54 - m.log2 = k
    have := nearest_scale (sg x) m (k + 1) p
    rw [show (p - -52 - ((k + 52 : Nat) : Int) - 1) = p - ((k + 1 : Nat) : Int) by omega, show 2 * (m * 2 ^ k) = m * 2 ^ (k + 1) by rw [Nat.pow_succ]; simp [Nat.mul_comm, Nat.mul_left_comm], this, hw]

end Go.Proofs.Ytompdlhhfpjebaa.Fl
