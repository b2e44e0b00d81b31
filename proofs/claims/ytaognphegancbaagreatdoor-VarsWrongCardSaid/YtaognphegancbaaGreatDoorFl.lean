/- Plain facts on the words of double floats: how rounding to a rung scales, that it is monotone and exact on words, what sums, products and quotients come to. No program. -/
import Derived.Laws.FloatArith
namespace Go.Proofs.YtaognphegancbaaGreatDoor.Fl
set_option linter.unusedVariables false
open Ieee

theorem log2_lt (n : Nat) (h : n ≠ 0) : n < 2 ^ (n.log2 + 1) := (Nat.log2_lt h).1 (Nat.lt_succ_self _)
theorem log2_le (n : Nat) (h : n ≠ 0) : 2 ^ n.log2 ≤ n := Nat.log2_self_le h
theorem log2_mono {m n : Nat} (h : m ≤ n) : m.log2 ≤ n.log2 := by
  by_cases hm : m = 0
  · subst hm; simp
  · have hn : n ≠ 0 := by omega
    exact (Nat.le_log2 hn).2 (Nat.le_trans (log2_le m hm) h)
theorem log2_unique {n k : Nat} (h1 : 2 ^ k ≤ n) (h2 : n < 2 ^ (k + 1)) : n.log2 = k := by
  have hn : n ≠ 0 := by have := Nat.two_pow_pos k; omega
  have a := (Nat.le_log2 hn).2 h1
  have b := (Nat.log2_lt hn).2 h2
  omega
theorem log2_scale (m k : Nat) (h : m ≠ 0) : (m * 2 ^ k).log2 = m.log2 + k := by
  apply log2_unique
  · rw [Nat.pow_add]; exact Nat.mul_le_mul_right _ (log2_le m h)
  · rw [show m.log2 + k + 1 = (m.log2 + 1) + k by omega, Nat.pow_add]
    exact Nat.mul_lt_mul_of_pos_right (log2_lt m h) (Nat.two_pow_pos k)

/-- n / 2^d, rounded to the nearest whole number, ties to even. -/
def rne (n d : Nat) : Nat := n / 2 ^ d + (if 2 ^ d < 2 * (n % 2 ^ d) ∨ (2 ^ d = 2 * (n % 2 ^ d) ∧ n / 2 ^ d % 2 = 1) then 1 else 0)

theorem rne_exact (n d : Nat) : rne (n * 2 ^ d) d = n := by
  have hp := Nat.two_pow_pos d
  unfold rne
  rw [Nat.mul_div_cancel _ hp, Nat.mul_mod_left, if_neg (by omega)]
  rfl

theorem rne_zero (n : Nat) : rne n 0 = n := by
  have := rne_exact n 0
  simpa using this

theorem rne_mono {n m : Nat} (d : Nat) (h : n ≤ m) : rne n d ≤ rne m d := by
  have hp := Nat.two_pow_pos d
  unfold rne
  generalize 2 ^ d = g at *
  have hq : n / g ≤ m / g := Nat.div_le_div_right h
  have e1 := Nat.div_add_mod n g
  have e2 := Nat.div_add_mod m g
  by_cases hlt : n / g < m / g
  · split <;> split <;> omega
  · have he : n / g = m / g := by omega
    rw [he] at e1 ⊢
    have hr : n % g ≤ m % g := by omega
    split <;> split <;> omega

theorem rne_scale (n d k : Nat) : rne (n * 2 ^ k) (d + k) = rne n d := by
  have hk := Nat.two_pow_pos k
  have hd := Nat.two_pow_pos d
  unfold rne
  rw [Nat.pow_add, Nat.mul_div_mul_right _ _ hk, Nat.mul_mod_mul_right]
  congr 1
  have e1 : (2 ^ d * 2 ^ k < 2 * (n % 2 ^ d * 2 ^ k)) ↔ 2 ^ d < 2 * (n % 2 ^ d) := by
    rw [← Nat.mul_assoc]; exact Nat.mul_lt_mul_right hk
  have e2 : (2 ^ d * 2 ^ k = 2 * (n % 2 ^ d * 2 ^ k)) ↔ 2 ^ d = 2 * (n % 2 ^ d) := by
    rw [← Nat.mul_assoc]; exact Nat.mul_left_inj (Nat.pos_iff_ne_zero.1 hk)
  simp only [e1, e2]

theorem rne_le {n d m : Nat} (h : n ≤ m * 2 ^ d) : rne n d ≤ m := by
  have := rne_mono d h
  rwa [rne_exact] at this
theorem rne_ge {n d m : Nat} (h : m * 2 ^ d ≤ n) : m ≤ rne n d := by
  have := rne_mono d h
  rwa [rne_exact] at this

theorem cut_eq (neg : Bool) (n d : Nat) : Toward.even.cut neg n d = rne n d := by
  unfold Toward.cut rne
  simp only [Nat.shiftLeft_eq, Nat.one_mul]
  by_cases h : d ≤ n.log2 + 2
  · rw [Nat.min_eq_left h]
    congr 1
    generalize 2 ^ d = g
    by_cases h1 : g < 2 * (n % g)
    · simp [h1]
    · by_cases h2 : g = 2 * (n % g)
      · by_cases h3 : n / g % 2 = 1
        · rw [if_pos (.inr ⟨h2, h3⟩)]
          simp [h3, ← h2]
        · rw [if_neg (by omega)]
          simp [h3, ← h2]
      · rw [if_neg (by omega)]
        simp [h1, h2]
  · have hmin : min d (n.log2 + 2) = n.log2 + 2 := by omega
    rw [hmin]
    have key : ∀ e, n.log2 + 2 ≤ e → n / 2 ^ e = 0 ∧ 2 * (n % 2 ^ e) < 2 ^ e := by
      intro e he
      have h1 : 2 * n < 2 ^ e := by
        by_cases hn : n = 0
        · subst hn; exact Nat.two_pow_pos e
        · have a := log2_lt n hn
          have b : 2 ^ (n.log2 + 2) ≤ 2 ^ e := Nat.pow_le_pow_right (by omega) he
          rw [Nat.pow_succ] at b
          omega
      exact ⟨Nat.div_eq_of_lt (by omega), by rw [Nat.mod_eq_of_lt (by omega)]; exact h1⟩
    obtain ⟨a1, a2⟩ := key (n.log2 + 2) (Nat.le_refl _)
    obtain ⟨b1, b2⟩ := key d (by omega)
    rw [a1, b1, if_neg (by omega)]
    have c1 : ¬ 2 ^ (n.log2 + 2) < 2 * (n % 2 ^ (n.log2 + 2)) := by omega
    simp [c1]

/-- 2^52, the rung of infinity, 2^63. -/
def B52 : Nat := 4503599627370496
def INF : Nat := 9218868437227405312
def SGN : Nat := 9223372036854775808
theorem B52_eq : B52 = 2 ^ 52 := by decide
theorem INF_eq : INF = 2047 * 2 ^ 52 := by decide
theorem SGN_eq : SGN = 2 ^ 63 := by decide
theorem dbl_inf : double.infRung = INF := by decide
theorem dbl_bin : double.binade = B52 := by decide
theorem dbl_sgn : double.signWeight = SGN := by decide
theorem dbl_least : double.leastPlace = -1074 := by decide

/-- The rung of 'm * 2^(-1074-q)', rounded. -/
def Rq (q m : Nat) : Nat := min ((m.log2 - (52 + q)) * 2 ^ 52 + rne m (m.log2 - (52 + q) + q)) INF

theorem Rq_zero (q : Nat) : Rq q 0 = 0 := by
  unfold Rq rne
  simp [INF]

theorem Rq_scale (q m k : Nat) : Rq (q + k) (m * 2 ^ k) = Rq q m := by
  by_cases h : m = 0
  · subst h; simp [Rq_zero]
  · unfold Rq
    rw [log2_scale m k h, show m.log2 + k - (52 + (q + k)) = m.log2 - (52 + q) by omega,
      show m.log2 - (52 + q) + (q + k) = m.log2 - (52 + q) + q + k by omega, rne_scale]

theorem Rq_scale0 (q m : Nat) : Rq q (m * 2 ^ q) = Rq 0 m := by
  have := Rq_scale 0 m q
  rwa [Nat.zero_add] at this

theorem Rq_le_inf (q m : Nat) : Rq q m ≤ INF := by unfold Rq; omega

theorem Rq_mono (q : Nat) {m n : Nat} (h : m ≤ n) : Rq q m ≤ Rq q n := by
  by_cases hm : m = 0
  · subst hm; rw [Rq_zero]; omega
  have hn : n ≠ 0 := by omega
  have hl := log2_mono h
  suffices hs : (m.log2 - (52 + q)) * 2 ^ 52 + rne m (m.log2 - (52 + q) + q) ≤ (n.log2 - (52 + q)) * 2 ^ 52 + rne n (n.log2 - (52 + q) + q) by
    unfold Rq; omega
  by_cases he : m.log2 - (52 + q) = n.log2 - (52 + q)
  · rw [he]
    have := rne_mono (n.log2 - (52 + q) + q) h
    omega
  · have hlt : m.log2 - (52 + q) < n.log2 - (52 + q) := by omega
    have a : rne m (m.log2 - (52 + q) + q) ≤ 2 ^ 53 := by
      apply rne_le
      rw [← Nat.pow_add]
      have := log2_lt m hm
      refine Nat.le_trans (Nat.le_of_lt this) (Nat.pow_le_pow_right (by omega) (by omega))
    have b : 2 ^ 52 ≤ rne n (n.log2 - (52 + q) + q) := by
      apply rne_ge
      rw [← Nat.pow_add, show 52 + (n.log2 - (52 + q) + q) = n.log2 by omega]
      exact log2_le n hn
    omega

/-- What a rung below infinity stands for, in units of 2^-1074. -/
def val (r : Nat) : Nat := if r < 2 ^ 52 then r else (2 ^ 52 + r % 2 ^ 52) * 2 ^ (r / 2 ^ 52 - 1)

theorem log2_small {r : Nat} (h : r < 2 ^ 53) : r.log2 ≤ 52 := by
  by_cases h0 : r = 0
  · subst h0; simp
  · have := (Nat.log2_lt h0).2 h
    omega

theorem R_val {r : Nat} (h : r ≤ INF) : Rq 0 (val r) = r := by
  unfold val
  split
  · rename_i hr
    have := log2_small (r := r) (by omega)
    unfold Rq
    rw [show r.log2 - (52 + 0) = 0 by omega, rne_zero]
    omega
  · rename_i hr
    have hm : r % 2 ^ 52 < 2 ^ 52 := Nat.mod_lt _ (by omega)
    have hl : ((2 ^ 52 + r % 2 ^ 52) * 2 ^ (r / 2 ^ 52 - 1)).log2 = 52 + (r / 2 ^ 52 - 1) := by
      rw [log2_scale _ _ (by omega)]
      congr 1
      exact log2_unique (by omega) (by omega)
    unfold Rq
    rw [hl, show 52 + (r / 2 ^ 52 - 1) - (52 + 0) = r / 2 ^ 52 - 1 by omega, Nat.add_zero, rne_exact]
    have e := Nat.div_add_mod r (2 ^ 52)
    have hd : 1 ≤ r / 2 ^ 52 := by omega
    rw [Nat.sub_mul]
    omega

theorem val_inj {a b : Nat} (ha : a ≤ INF) (hb : b ≤ INF) (h : val a = val b) : a = b := by
  rw [← R_val ha, ← R_val hb, h]
theorem val_lt {a b : Nat} (ha : a ≤ INF) (hb : b ≤ INF) (h : a < b) : val a < val b := by
  by_cases hc : val a < val b
  · exact hc
  · have := Rq_mono 0 (Nat.not_lt.1 hc)
    rw [R_val ha, R_val hb] at this
    omega
theorem val_le {a b : Nat} (ha : a ≤ INF) (hb : b ≤ INF) (h : a ≤ b) : val a ≤ val b := by
  by_cases e : a = b
  · subst e; exact Nat.le_refl _
  · exact Nat.le_of_lt (val_lt ha hb (by omega))
theorem val_zero {r : Nat} (h : r ≤ INF) : val r = 0 ↔ r = 0 := by
  constructor
  · intro e
    exact val_inj h (by unfold INF; omega) (e.trans rfl)
  · intro e; subst e; rfl

/-- A word of a sign and a rung. -/
def wd (s : Bool) (r : Nat) : Nat := if s then SGN + r else r
theorem word_eq (s : Bool) (r : Nat) : double.word s r = wd s r := by
  unfold Format.word wd; rw [dbl_sgn]

theorem nearest_eq (s : Bool) (m : Nat) (p : Int) : double.nearest s m p = wd s (if p ≤ -1074 then Rq (-1074 - p).toNat m else Rq 0 (m * 2 ^ (p + 1074).toNat)) := by
  unfold Format.nearest
  by_cases hm : m = 0
  · subst hm
    rw [if_pos rfl, word_eq]
    simp [Rq_zero]
  rw [if_neg hm]
  simp only [dbl_least, dbl_bin, dbl_inf, cut_eq, word_eq, Nat.shiftLeft_eq]
  rw [show (double.fractionBits : Int) = 52 from rfl]
  congr 1
  by_cases hp : p ≤ -1074
  · rw [if_pos hp]
    obtain ⟨q, rfl⟩ : ∃ q : Nat, p = -1074 - q := ⟨(-1074 - p).toNat, by omega⟩
    unfold Rq
    have e0 : (-1074 - (-1074 - (q : Int))).toNat = q := by omega
    rw [e0]
    have hlast : max (-1074 - (q : Int) + (m.log2 : Int) - 52) (-1074) = -1074 + ((m.log2 - (52 + q) : Nat) : Int) := by omega
    rw [hlast]
    have e1 : (-1074 + ((m.log2 - (52 + q) : Nat) : Int) - -1074).toNat = m.log2 - (52 + q) := by omega
    have e2 : (-1074 - (q : Int) - (-1074 + ((m.log2 - (52 + q) : Nat) : Int))).toNat = 0 := by omega
    have e3 : (-1074 + ((m.log2 - (52 + q) : Nat) : Int) - (-1074 - (q : Int))).toNat = m.log2 - (52 + q) + q := by omega
    rw [e1, e2, e3, B52_eq]
    simp
  · rw [if_neg hp]
    obtain ⟨k, rfl⟩ : ∃ k : Nat, p = -1074 + k := ⟨(p + 1074).toNat, by omega⟩
    have e0 : (-1074 + (k : Int) + 1074).toNat = k := by omega
    rw [e0]
    unfold Rq
    rw [log2_scale m k hm]
    have hlast : max (-1074 + (k : Int) + (m.log2 : Int) - 52) (-1074) = -1074 + ((m.log2 + k - (52 + 0) : Nat) : Int) := by omega
    rw [hlast]
    have e1 : (-1074 + ((m.log2 + k - (52 + 0) : Nat) : Int) - -1074).toNat = m.log2 + k - (52 + 0) := by omega
    rw [e1, B52_eq, Nat.add_zero (m.log2 + k - (52 + 0))]
    congr 2
    by_cases hc : m.log2 + k - (52 + 0) ≤ k
    · have e2 : (-1074 + (k : Int) - (-1074 + ((m.log2 + k - (52 + 0) : Nat) : Int))).toNat = k - (m.log2 + k - (52 + 0)) := by omega
      have e3 : (-1074 + ((m.log2 + k - (52 + 0) : Nat) : Int) - (-1074 + (k : Int))).toNat = 0 := by omega
      rw [e2, e3, rne_zero]
      generalize m.log2 + k - (52 + 0) = s at hc ⊢
      have hk : m * 2 ^ k = m * 2 ^ (k - s) * 2 ^ s := by
        rw [Nat.mul_assoc, ← Nat.pow_add, Nat.sub_add_cancel hc]
      rw [hk, rne_exact]
    · have e2 : (-1074 + (k : Int) - (-1074 + ((m.log2 + k - (52 + 0) : Nat) : Int))).toNat = 0 := by omega
      have e3 : (-1074 + ((m.log2 + k - (52 + 0) : Nat) : Int) - (-1074 + (k : Int))).toNat = m.log2 + k - (52 + 0) - k := by omega
      rw [e2, e3, Nat.pow_zero, Nat.mul_one]
      have e4 : m.log2 + k - (52 + 0) = (m.log2 + k - (52 + 0) - k) + k := by omega
      conv => rhs; rw [e4, rne_scale]

/-- SCALING: what is written hangs on the value alone. -/
theorem nearest_scale (s : Bool) (m k : Nat) (p : Int) : double.nearest s (m * 2 ^ k) (p - k) = double.nearest s m p := by
  rw [nearest_eq, nearest_eq]
  congr 1
  by_cases hp : p ≤ -1074
  · rw [if_pos hp, if_pos (by omega), show (-1074 - (p - (k : Int))).toNat = (-1074 - p).toNat + k by omega, Rq_scale]
  · rw [if_neg hp]
    by_cases hq : p - (k : Int) ≤ -1074
    · rw [if_pos hq]
      have e : k = (p + 1074).toNat + (-1074 - (p - (k : Int))).toNat := by omega
      generalize (-1074 - (p - (k : Int))).toNat = q at *
      conv => lhs; rw [e, Nat.pow_add, ← Nat.mul_assoc]
      exact Rq_scale0 _ _
    · rw [if_neg hq, Nat.mul_assoc, ← Nat.pow_add, show k + (p - (k : Int) + 1074).toNat = (p + 1074).toNat by omega]

theorem nearest_unit (s : Bool) (m : Nat) (p : Int) (h : -1074 ≤ p) : double.nearest s m p = wd s (Rq 0 (m * 2 ^ (p + 1074).toNat)) := by
  rw [nearest_eq]
  by_cases e : p = -1074
  · subst e; simp
  · rw [if_neg (by omega)]

end Go.Proofs.YtaognphegancbaaGreatDoor.Fl
