/- Plain facts on the words of double floats: how a word is read, the order, sums, products, quotients by one. No program. -/
import Derived.Test.YtaognphegancbaaGreatDoorFl
import Derived.Laws.Entries
import Derived.WalkKit
namespace Go.Proofs.YtaognphegancbaaGreatDoor.Fl
set_option linter.unusedVariables false
open Ieee

def sg (x : Nat) : Bool := x / SGN % 2 == 1
def rg (x : Nat) : Nat := x % SGN

theorem rg_lt (x : Nat) : rg x < SGN := Nat.mod_lt _ (by decide)
theorem wd_sg_rg {x : Nat} (h : x < 2 ^ 64) : wd (sg x) (rg x) = x := by
  unfold wd sg rg SGN
  by_cases hx : x < 9223372036854775808
  · rw [Nat.div_eq_of_lt hx, Nat.mod_eq_of_lt hx]; rfl
  · have h1 : x / 9223372036854775808 = 1 := by omega
    rw [h1]
    simp
    omega
theorem sg_wd (s : Bool) {r : Nat} (h : r < SGN) : sg (wd s r) = s := by
  unfold sg wd
  cases s
  · simp [Nat.div_eq_of_lt h]
  · have : (SGN + r) / SGN = 1 := by unfold SGN at *; omega
    simp [this]
theorem rg_wd (s : Bool) {r : Nat} (h : r < SGN) : rg (wd s r) = r := by
  unfold rg wd
  cases s
  · simp [Nat.mod_eq_of_lt h]
  · simp [Nat.mod_eq_of_lt h]
theorem INF_lt : INF < SGN := by decide
theorem wd_lt (s : Bool) {r : Nat} (h : r < SGN) : wd s r < 2 ^ 64 := by
  unfold wd SGN at *
  split <;> omega

/-- Three ways to read a word. -/
theorem read_fin {x : Nat} (h : rg x < INF) : ∃ m p, double.read x = .number (sg x) m p ∧ -1074 ≤ p ∧ m * 2 ^ (p + 1074).toNat = val (rg x) ∧ m < 2 ^ 53 ∧ (p = -1074 ∨ 2 ^ 52 ≤ m) := by
  unfold Format.read
  simp only [dbl_sgn, dbl_bin, dbl_inf, dbl_least]
  change rg x < INF at h
  by_cases hs : x % SGN < B52
  · rw [if_pos hs]
    refine ⟨_, _, rfl, by omega, ?_, ?_, .inl rfl⟩
    · have : rg x < 2 ^ 52 := by unfold rg; rw [← B52_eq]; exact hs
      unfold val; rw [if_pos this]; simp [rg]
    · rw [B52_eq] at hs; omega
  · rw [if_neg hs, if_pos (show x % SGN < INF from h)]
    refine ⟨_, _, rfl, by omega, ?_, ?_, .inr ?_⟩
    · have : ¬ rg x < 2 ^ 52 := by unfold rg; rw [← B52_eq]; exact hs
      unfold val; rw [if_neg this]
      have e : ((-1074 : Int) + ((x % SGN / B52 - 1 : Nat) : Int) + 1074).toNat = rg x / 2 ^ 52 - 1 := by unfold rg; rw [B52_eq]; omega
      rw [e]; unfold rg; rw [B52_eq]
    · have := Nat.mod_lt (x % SGN) (show 0 < B52 by decide)
      rw [B52_eq] at *; omega
    · rw [B52_eq]; omega
theorem read_inf {x : Nat} (h : rg x = INF) : double.read x = .infinity (sg x) := by
  unfold Format.read
  simp only [dbl_sgn, dbl_bin, dbl_inf, dbl_least]
  change x % SGN = INF at h
  rw [h, if_neg (by decide), if_neg (by decide), if_pos rfl]
  rfl
theorem read_nan {x : Nat} (h : INF < rg x) : double.read x = .nan (sg x) (rg x - INF) := by
  unfold Format.read
  simp only [dbl_sgn, dbl_bin, dbl_inf, dbl_least]
  change INF < x % SGN at h
  have hb : B52 < INF := by decide
  rw [if_neg (by omega), if_neg (by omega), if_neg (by omega)]
  rfl

/-- x is no number. -/
def nanB (x : Nat) : Bool := FloatKind.f64.format.order x x != some .eq

theorem fmt64 : FloatKind.f64.format = double := rfl

def vals (s : Bool) (n : Nat) : Int := if s then -(n : Int) else n
/-- The place in the order of values: the two zeros are at 0. -/
def key (x : Nat) : Int := vals (sg x) (rg x)
def V (x : Nat) : Int := vals (sg x) (val (rg x))

theorem signed_eq (s : Bool) (m k : Nat) : signed s m k = vals s (m * 2 ^ k) := by
  unfold signed vals; rw [Nat.shiftLeft_eq]
theorem vals_mul (s : Bool) (m k : Nat) : vals s m * (k : Int) = vals s (m * k) := by
  unfold vals
  cases s
  · simp
  · simp [Int.neg_mul]
theorem vals_natAbs (s : Bool) (n : Nat) : (vals s n).natAbs = n := by unfold vals; split <;> omega

theorem cmp_congr {a b c d : Int} (h1 : a < b ↔ c < d) (h2 : a = b ↔ c = d) : compare a b = compare c d := by
  simp only [compare, compareOfLessAndEq, h1, h2]

theorem V_lt_iff {x y : Nat} (hx : rg x ≤ INF) (hy : rg y ≤ INF) : V x < V y ↔ key x < key y := by
  unfold V key vals
  have a := @val_lt _ _ hx hy
  have b := @val_lt _ _ hy hx
  have c := val_zero hx
  have d := val_zero hy
  have e : rg x = rg y → val (rg x) = val (rg y) := fun h => by rw [h]
  cases sg x <;> cases sg y <;> simp <;> omega
theorem V_eq_iff {x y : Nat} (hx : rg x ≤ INF) (hy : rg y ≤ INF) : V x = V y ↔ key x = key y := by
  unfold V key vals
  have a := @val_lt _ _ hx hy
  have b := @val_lt _ _ hy hx
  have c := val_zero hx
  have d := val_zero hy
  have e : rg x = rg y → val (rg x) = val (rg y) := fun h => by rw [h]
  cases sg x <;> cases sg y <;> simp <;> omega

theorem pow_pos' (k : Nat) : (0 : Int) < ((2 ^ k : Nat) : Int) := by have := Nat.two_pow_pos k; omega

theorem order_key {x y : Nat} (hx : rg x ≤ INF) (hy : rg y ≤ INF) : double.order x y = some (compare (key x) (key y)) := by
  unfold Format.order
  by_cases h1 : rg x = INF
  · rw [read_inf h1]
    by_cases h2 : rg y = INF
    · rw [read_inf h2]
      unfold Datum.order key vals
      rw [h1, h2]
      cases sg x <;> cases sg y <;> decide
    · obtain ⟨n, q, e, -⟩ := read_fin (x := y) (by omega)
      rw [e]
      have hlt : rg y < INF := by omega
      unfold Datum.order
      simp only [Option.some.injEq]
      unfold key vals
      rw [h1]
      cases sg x
      · simp only [Bool.false_eq_true, if_false]
        symm; rw [Int.compare_eq_gt]; split <;> omega
      · simp only [if_true]
        symm; rw [Int.compare_eq_lt]; split <;> omega
  · obtain ⟨m, p, e, hp, hv, -⟩ := read_fin (x := x) (by omega)
    rw [e]
    have hlt : rg x < INF := by omega
    by_cases h2 : rg y = INF
    · rw [read_inf h2]
      unfold Datum.order
      simp only [Option.some.injEq]
      unfold key vals
      rw [h2]
      cases sg y
      · simp only [Bool.false_eq_true, if_false]
        symm; rw [Int.compare_eq_lt]; split <;> omega
      · simp only [if_true]
        symm; rw [Int.compare_eq_gt]; split <;> omega
    · obtain ⟨n, q, e2, hq, hw, -⟩ := read_fin (x := y) (by omega)
      rw [e2]
      unfold Datum.order
      simp only [Option.some.injEq, signed_eq]
      generalize hb : min p q = base
      have k1 : vals (sg x) (m * 2 ^ (p - base).toNat) * ((2 ^ (base + 1074).toNat : Nat) : Int) = V x := by
        rw [vals_mul, Nat.mul_assoc, ← Nat.pow_add, show (p - base).toNat + (base + 1074).toNat = (p + 1074).toNat by omega, hv]; rfl
      have k2 : vals (sg y) (n * 2 ^ (q - base).toNat) * ((2 ^ (base + 1074).toNat : Nat) : Int) = V y := by
        rw [vals_mul, Nat.mul_assoc, ← Nat.pow_add, show (q - base).toNat + (base + 1074).toNat = (q + 1074).toNat by omega, hw]; rfl
      have hpos := pow_pos' (base + 1074).toNat
      refine cmp_congr ?_ ?_
      · rw [← V_lt_iff hx hy, ← k1, ← k2]
        exact (Int.mul_lt_mul_right hpos).symm
      · rw [← V_eq_iff hx hy, ← k1, ← k2]
        exact (Int.mul_eq_mul_right_iff (by omega)).symm

theorem order_nan_l {x y : Nat} (h : INF < rg x) : double.order x y = none := by
  unfold Format.order; rw [read_nan h]; unfold Datum.order; rfl
theorem order_nan_r {x y : Nat} (h : INF < rg y) : double.order x y = none := by
  unfold Format.order; rw [read_nan h]; unfold Datum.order; cases double.read x <;> rfl

theorem nanB_true {x : Nat} : nanB x = true ↔ INF < rg x := by
  unfold nanB
  rw [fmt64]
  by_cases h : INF < rg x
  · rw [order_nan_l h]; simp [h]
  · rw [order_key (by omega) (by omega)]; simp [h]
theorem nanB_false {x : Nat} : nanB x = false ↔ rg x ≤ INF := by
  have := @nanB_true x
  cases h : nanB x <;> simp_all
  
def qnan : Nat := 9221120237041090561
def canon (x : Nat) : Nat := if nanB x then qnan else x
theorem qnan_nan : nanB qnan = true := by decide +kernel
theorem canon_canon (x : Nat) : canon (canon x) = canon x := by
  unfold canon
  by_cases h : nanB x
  · rw [if_pos h, if_pos qnan_nan]
  · rw [if_neg h, if_neg h]
theorem nanB_canon (x : Nat) : nanB (canon x) = nanB x := by
  unfold canon
  by_cases h : nanB x
  · rw [if_pos h, qnan_nan, h]
  · rw [if_neg h]
theorem canon_lt {x : Nat} (h : x < 2 ^ 64) : canon x < 2 ^ 64 := by
  unfold canon; split
  · decide
  · exact h

/-- The sign turned round. -/
def negW (x : Nat) : Nat := Op.negFloat .f64 x
theorem negW_eq {x : Nat} (h : x < 2 ^ 64) : negW x = wd (!sg x) (rg x) := by
  show x ^^^ 2 ^ 63 = _
  have hd : (x ^^^ 2 ^ 63) / 2 ^ 63 = x / 2 ^ 63 ^^^ 1 := by rw [Nat.xor_div_two_pow]
  have hm : (x ^^^ 2 ^ 63) % 2 ^ 63 = x % 2 ^ 63 := by rw [Nat.xor_mod_two_pow]; simp
  have e := Nat.div_add_mod (x ^^^ 2 ^ 63) (2 ^ 63)
  rw [hd, hm] at e
  rw [← e]
  unfold wd sg rg
  rw [SGN_eq]
  have : x / 2 ^ 63 = 0 ∨ x / 2 ^ 63 = 1 := by omega
  rcases this with h0 | h0 <;> rw [h0] <;> simp
theorem sg_neg {x : Nat} (h : x < 2 ^ 64) : sg (negW x) = !sg x := by rw [negW_eq h, sg_wd _ (rg_lt x)]
theorem rg_neg {x : Nat} (h : x < 2 ^ 64) : rg (negW x) = rg x := by rw [negW_eq h, rg_wd _ (rg_lt x)]
theorem neg_lt {x : Nat} (h : x < 2 ^ 64) : negW x < 2 ^ 64 := by rw [negW_eq h]; exact wd_lt _ (rg_lt x)
theorem neg_neg {x : Nat} (h : x < 2 ^ 64) : negW (negW x) = x := by
  rw [negW_eq (neg_lt h), sg_neg h, rg_neg h, Bool.not_not, wd_sg_rg h]
theorem nanB_neg {x : Nat} (h : x < 2 ^ 64) : nanB (negW x) = nanB x := by
  cases hx : nanB x
  · rw [nanB_false, rg_neg h]; exact nanB_false.1 hx
  · rw [nanB_true, rg_neg h]; exact nanB_true.1 hx
theorem key_neg {x : Nat} (h : x < 2 ^ 64) : key (negW x) = - key x := by
  unfold key vals; rw [sg_neg h, rg_neg h]; cases sg x <;> simp
theorem V_neg {x : Nat} (h : x < 2 ^ 64) : V (negW x) = - V x := by
  unfold V vals; rw [sg_neg h, rg_neg h]; cases sg x <;> simp
theorem read_neg {x : Nat} (h : x < 2 ^ 64) : double.read (negW x) = (double.read x).opposite := by
  unfold Format.read
  simp only [dbl_sgn]
  have h1 : negW x % SGN = x % SGN := rg_neg h
  have h2 : (negW x / SGN % 2 == 1) = !(x / SGN % 2 == 1) := sg_neg h
  rw [h1, h2]
  split
  · rfl
  · split
    · rfl
    · split <;> rfl

theorem write_read {x : Nat} (h : x < 2 ^ 64) (hn : nanB x = false) : double.write (double.read x) = x := by
  have hr := nanB_false.1 hn
  by_cases hi : rg x = INF
  · rw [read_inf hi]
    show double.word _ _ = _
    rw [word_eq, dbl_inf, ← hi, wd_sg_rg h]
  · obtain ⟨m, p, e, hp, hv, -⟩ := read_fin (x := x) (by omega)
    rw [e]
    show double.nearest _ _ _ = _
    rw [nearest_unit _ _ _ hp, hv, R_val hr, wd_sg_rg h]

/-! ### The sign's bit -/
theorem and_sgn {x : Nat} (h : x < 2 ^ 64) : x &&& 9223372036854775808 = if sg x then 9223372036854775808 else 0 := by
  have hd : (x &&& 2 ^ 63) / 2 ^ 63 = x / 2 ^ 63 &&& 1 := by rw [Nat.and_div_two_pow]
  have hm : (x &&& 2 ^ 63) % 2 ^ 63 = 0 := by rw [Nat.and_mod_two_pow]; simp
  have e := Nat.div_add_mod (x &&& 2 ^ 63) (2 ^ 63)
  rw [hd, hm] at e
  unfold sg
  rw [SGN_eq]
  have : x / 2 ^ 63 = 0 ∨ x / 2 ^ 63 = 1 := by omega
  rcases this with h0 | h0 <;> rw [h0] at e ⊢ <;> simp at e ⊢ <;> omega
theorem bits_and {x : Nat} (h : x < 2 ^ 64) : bits .and .u64 (x : Int) 9223372036854775808 = if sg x then 9223372036854775808 else 0 := by
  have e : bits .and .u64 (x : Int) 9223372036854775808 = ((x &&& 9223372036854775808 : Nat) : Int) := by
    show IntKind.u64.wrap (((BitVec.ofInt 64 ((x : Nat) : Int) &&& BitVec.ofInt 64 ((9223372036854775808 : Nat) : Int)).toNat : Nat) : Int) = _
    rw [BitVec.ofInt_natCast, BitVec.ofInt_natCast, BitVec.toNat_and, BitVec.toNat_ofNat, BitVec.toNat_ofNat, Nat.mod_eq_of_lt h]
    have hle : x &&& 9223372036854775808 ≤ x := Nat.and_le_left
    rw [show 9223372036854775808 % 2 ^ 64 = 9223372036854775808 from rfl]
    exact IntWalk.u64_in _ (by omega)
  rw [e, and_sgn h]
  split <;> rfl
theorem bits_andNot {x : Nat} (h : x < 2 ^ 64) : bits .andNot .u64 (x : Int) 9223372036854775808 = (rg x : Int) := by
  have e : bits .andNot .u64 (x : Int) 9223372036854775808 = ((x &&& (2 ^ 63 - 1) : Nat) : Int) := by
    show IntKind.u64.wrap (((BitVec.ofInt 64 ((x : Nat) : Int) &&& ~~~ BitVec.ofInt 64 ((9223372036854775808 : Nat) : Int)).toNat : Nat) : Int) = _
    rw [BitVec.ofInt_natCast, BitVec.ofInt_natCast, BitVec.toNat_and, BitVec.toNat_ofNat, Nat.mod_eq_of_lt h]
    have hle : x &&& 9223372036854775807 ≤ x := Nat.and_le_left
    rw [show (~~~BitVec.ofNat 64 9223372036854775808).toNat = 9223372036854775807 by decide]
    exact IntWalk.u64_in _ (by omega)
  rw [e, Nat.and_two_pow_sub_one_eq_mod]
  unfold rg
  rw [SGN_eq]

/-! ### Sums -/
def enc (s : Bool) (n : Nat) : Nat := wd s (Rq 0 n)
theorem enc_rg (s : Bool) (n : Nat) : rg (enc s n) = Rq 0 n := rg_wd _ (Nat.lt_of_le_of_lt (Rq_le_inf _ _) INF_lt)
theorem enc_sg (s : Bool) (n : Nat) : sg (enc s n) = s := sg_wd _ (Nat.lt_of_le_of_lt (Rq_le_inf _ _) INF_lt)
theorem enc_nan (s : Bool) (n : Nat) : nanB (enc s n) = false := by rw [nanB_false, enc_rg]; exact Rq_le_inf _ _
theorem enc_lt (s : Bool) (n : Nat) : enc s n < 2 ^ 64 := wd_lt _ (Nat.lt_of_le_of_lt (Rq_le_inf _ _) INF_lt)

theorem sum_num (s : Bool) (m : Nat) (i : Int) (t : Bool) (n : Nat) (j : Int) (hi : -1074 ≤ i) (hj : -1074 ≤ j) (v w : Int)
    (hv : vals s (m * 2 ^ (i + 1074).toNat) = v) (hw : vals t (n * 2 ^ (j + 1074).toNat) = w) :
    ((Datum.number s m i).sum (.number t n j)).map double.write = some (enc (if v + w = 0 then s && t else decide (v + w < 0)) (v + w).natAbs) := by
  unfold Datum.sum
  simp only [signed_eq, Option.map_some, Option.some.injEq]
  generalize hb : min i j = base
  have k1 : vals s (m * 2 ^ (i - base).toNat) * ((2 ^ (base + 1074).toNat : Nat) : Int) = v := by
    rw [vals_mul, Nat.mul_assoc, ← Nat.pow_add, show (i - base).toNat + (base + 1074).toNat = (i + 1074).toNat by omega, hv]
  have k2 : vals t (n * 2 ^ (j - base).toNat) * ((2 ^ (base + 1074).toNat : Nat) : Int) = w := by
    rw [vals_mul, Nat.mul_assoc, ← Nat.pow_add, show (j - base).toNat + (base + 1074).toNat = (j + 1074).toNat by omega, hw]
  have hpos := pow_pos' (base + 1074).toNat
  generalize vals s (m * 2 ^ (i - base).toNat) = a at k1 ⊢
  generalize vals t (n * 2 ^ (j - base).toNat) = b at k2 ⊢
  have k3 : (a + b) * ((2 ^ (base + 1074).toNat : Nat) : Int) = v + w := by rw [Int.add_mul, k1, k2]
  have z0 : (a + b = 0) ↔ (v + w = 0) := by
    rw [← k3]
    constructor
    · intro h; rw [h]; simp
    · intro h
      rcases Int.mul_eq_zero.1 h with h | h
      · exact h
      · omega
  have z1 : (a + b < 0) ↔ (v + w < 0) := by
    rw [← k3]
    constructor
    · intro h; exact Int.mul_neg_of_neg_of_pos h hpos
    · intro h
      by_cases hc : a + b < 0
      · exact hc
      · have := Int.mul_nonneg (Int.not_lt.1 hc) (Int.le_of_lt hpos); omega
  show double.nearest _ _ _ = _
  rw [nearest_unit _ _ _ (by omega)]
  have z2 : (a + b).natAbs * 2 ^ (base + 1074).toNat = (v + w).natAbs := by
    rw [← k3, Int.natAbs_mul, Int.natAbs_natCast]
  rw [z2]
  unfold enc
  simp only [z0, z1]

theorem add_fin {x y : Nat} (hx : rg x < INF) (hy : rg y < INF) :
    double.add x y = some (enc (if V x + V y = 0 then sg x && sg y else decide (V x + V y < 0)) (V x + V y).natAbs) := by
  obtain ⟨m, p, e, hp, hv, -⟩ := read_fin hx
  obtain ⟨n, q, e2, hq, hw, -⟩ := read_fin hy
  unfold Format.add
  rw [e, e2]
  exact sum_num _ _ _ _ _ _ hp hq _ _ (by rw [hv]; rfl) (by rw [hw]; rfl)

theorem sub_eq_add {x y : Nat} (hy : y < 2 ^ 64) : double.sub x y = double.add x (negW y) := by
  unfold Format.sub Format.add; rw [read_neg hy]

theorem sum_comm (a b : Datum) : a.sum b = b.sum a := by
  unfold Datum.sum
  cases a <;> cases b <;> simp
  case number.number s m i t n j =>
    rw [Int.min_comm i j, Int.add_comm, Bool.and_comm s t]
    simp
  case infinity.infinity s t =>
    by_cases h : s = t
    · simp [h]
    · rw [if_neg h, if_neg (Ne.symm h)]
theorem add_comm (x y : Nat) : double.add x y = double.add y x := by unfold Format.add; rw [sum_comm]
theorem product_comm (a b : Datum) : a.product b = b.product a := by
  unfold Datum.product
  cases a <;> cases b <;> simp [Bool.xor_comm, Nat.mul_comm, Int.add_comm]
theorem mul_comm (x y : Nat) : double.mul x y = double.mul y x := by unfold Format.mul; rw [product_comm]

end Go.Proofs.YtaognphegancbaaGreatDoor.Fl
