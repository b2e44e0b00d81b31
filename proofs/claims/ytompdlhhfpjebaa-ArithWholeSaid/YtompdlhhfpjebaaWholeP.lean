/- The plain law of ArithWhole: on small whole numbers the operators are exact. -/
import Derived.Test.YtompdlhhfpjebaaOrderP
namespace Go.Proofs.Ytompdlhhfpjebaa
set_option linter.unusedVariables false
open Go.RowKit
open Fl (nanB canon qnan sg rg negW)
open Ieee

/-- What is a number of the format is written exactly. -/
theorem val_exact {a e : Nat} (ha : a < 2 ^ 53) (he : a.log2 + e ≤ 2097) : Fl.val (Fl.Rq 0 (a * 2 ^ e)) = a * 2 ^ e ∧ Fl.Rq 0 (a * 2 ^ e) < Fl.INF := by
  by_cases h0 : a = 0
  · subst h0
    rw [Nat.zero_mul, Fl.Rq_zero]
    exact ⟨rfl, by decide⟩
  have hla := Fl.log2_small ha
  have hl := Fl.log2_scale a e h0
  have hI := Fl.INF_eq
  by_cases hs : a.log2 + e ≤ 52
  · have hN : a * 2 ^ e < 2 ^ 53 := by
      have := Fl.log2_lt (a * 2 ^ e) (by have := Nat.two_pow_pos e; exact Nat.mul_ne_zero h0 (by omega))
      rw [hl] at this
      exact Nat.lt_of_lt_of_le this (Nat.pow_le_pow_right (by omega) (by omega))
    have hR : Fl.Rq 0 (a * 2 ^ e) = a * 2 ^ e := by
      unfold Fl.Rq
      rw [hl, show a.log2 + e - (52 + 0) = 0 by omega, Fl.rne_zero]
      omega
    rw [hR]
    refine ⟨?_, by omega⟩
    unfold Fl.val
    split
    · rfl
    · have : a * 2 ^ e / 2 ^ 52 = 1 := by omega
      rw [this]; omega
  · obtain ⟨s, hs'⟩ : ∃ s, s = a.log2 + e - 52 := ⟨_, rfl⟩
    have hse : s ≤ e := by omega
    have hsu : s ≤ 2045 := by omega
    have hq : a * 2 ^ e = (a * 2 ^ (e - s)) * 2 ^ s := by rw [Nat.mul_assoc, ← Nat.pow_add, Nat.sub_add_cancel hse]
    have hql : (a * 2 ^ (e - s)).log2 = 52 := by rw [Fl.log2_scale a _ h0]; omega
    have hq0 : a * 2 ^ (e - s) ≠ 0 := Nat.mul_ne_zero h0 (Nat.pos_iff_ne_zero.1 (Nat.two_pow_pos _))
    have h1 := Fl.log2_le _ hq0
    have h2 := Fl.log2_lt _ hq0
    rw [hql] at h1 h2
    have hls : a.log2 + e - (52 + 0) = s := by omega
    have hR : Fl.Rq 0 (a * 2 ^ e) = min (s * 2 ^ 52 + a * 2 ^ (e - s)) Fl.INF := by
      unfold Fl.Rq
      rw [hl, hls, Nat.add_zero, hq, Fl.rne_exact]
    rw [hR, hq]
    clear hR hq hql hq0 hl hs hs' hse hls he hla ha
    generalize a * 2 ^ (e - s) = q at h1 h2 ⊢
    have hm : min (s * 2 ^ 52 + q) Fl.INF = s * 2 ^ 52 + q := by omega
    rw [hm]
    refine ⟨?_, by omega⟩
    have e1 : (s * 2 ^ 52 + q) / 2 ^ 52 - 1 = s := by omega
    have e2 : 2 ^ 52 + (s * 2 ^ 52 + q) % 2 ^ 52 = q := by omega
    unfold Fl.val
    rw [if_neg (by omega), e1, e2]

theorem pow_le_gen (e k : Nat) (h : k ≤ e) : 2 ^ k ≤ 2 ^ e := Nat.pow_le_pow_right (by omega) h
theorem pow_split_gen (e k : Nat) (h : k ≤ e) : 2 ^ e = 2 ^ (e - k) * 2 ^ k := by rw [← Nat.pow_add, Nat.sub_add_cancel h]
/-- 2^1074, kept shut. -/
def pw (e : Nat) : Nat := 2 ^ e
theorem pw_eq (e : Nat) : pw e = 2 ^ e := rfl
theorem pw_pos (e : Nat) : 0 < pw e := Nat.two_pow_pos e
def T : Nat := pw 1074
theorem T_pw : T = pw 1074 := rfl
attribute [irreducible] pw T
theorem T_pos : 0 < T := by rw [T_pw]; exact pw_pos _
theorem pow1074 : (0 : Int) < (T : Int) := by have := T_pos; omega
theorem pow_le_pw (e k : Nat) (h : k ≤ e) : 2 ^ k ≤ pw e := by rw [pw_eq]; exact pow_le_gen _ _ h
theorem pw_le_pow (e k : Nat) (h : e ≤ k) : pw e ≤ 2 ^ k := by rw [pw_eq]; exact pow_le_gen _ _ h
theorem pw_split (e k : Nat) (h : k ≤ e) : pw e = 2 ^ (e - k) * 2 ^ k := by rw [pw_eq]; exact pow_split_gen _ _ h
theorem pow_le_T {k : Nat} (h : k ≤ 1074) : 2 ^ k ≤ T := by rw [T_pw]; exact pow_le_pw _ _ h
theorem T_le_pow {k : Nat} (h : 1074 ≤ k) : T ≤ 2 ^ k := by rw [T_pw]; exact pw_le_pow _ _ h
theorem T_split {k : Nat} (h : k ≤ 1074) : T = 2 ^ (1074 - k) * 2 ^ k := by rw [T_pw]; exact pw_split _ _ h
theorem val_exact_T {a : Nat} (ha : a < 2 ^ 53) : Fl.val (Fl.Rq 0 (a * T)) = a * T ∧ Fl.Rq 0 (a * T) < Fl.INF := by
  have hl := Fl.log2_small ha
  have h := fun e => @val_exact a e ha
  have h2 : ∀ e, a.log2 + e ≤ 2097 → Fl.val (Fl.Rq 0 (a * pw e)) = a * pw e ∧ Fl.Rq 0 (a * pw e) < Fl.INF := fun e => by rw [pw_eq]; exact h e
  rw [T_pw]
  exact h2 1074 (by omega)
theorem unit_gen (s : Bool) (m e : Nat) (p : Int) (hp : -1074 ≤ p) (he : (p + 1074).toNat = e) : double.nearest s m p = Fl.enc s (m * pw e) := by
  rw [Fl.nearest_unit _ _ _ hp, he, pw_eq]; rfl
def FI (n : Int) : Nat := floatOfInt .f64 n
theorem FI_eq (n : Int) : FI n = Fl.enc (decide (n < 0)) (n.natAbs * T) := by
  rw [T_pw]
  exact unit_gen _ _ 1074 0 (by omega) rfl
theorem FI_lt (n : Int) : FI n < 2 ^ 64 := by rw [FI_eq]; exact Fl.enc_lt _ _
theorem FI_facts {n : Int} (h : n.natAbs < 2 ^ 53) : nanB (FI n) = false ∧ rg (FI n) < Fl.INF ∧ Fl.V (FI n) = n * (T : Int) ∧ Fl.val (rg (FI n)) = n.natAbs * T ∧ sg (FI n) = decide (n < 0) := by
  have hl := Fl.log2_small h
  obtain ⟨v1, v2⟩ := val_exact_T h
  rw [FI_eq]
  refine ⟨Fl.enc_nan _ _, by rw [Fl.enc_rg]; exact v2, ?_, by rw [Fl.enc_rg]; exact v1, Fl.enc_sg _ _⟩
  unfold Fl.V
  rw [Fl.enc_sg, Fl.enc_rg, v1]
  unfold Fl.vals
  by_cases hn : n < 0
  · rw [if_pos (by simpa using hn)]
    rw [Int.natCast_mul, ← Int.neg_mul, show (-(n.natAbs : Int)) = n by omega]
  · rw [if_neg (by simpa using hn)]
    rw [Int.natCast_mul, show (n.natAbs : Int) = n by omega]
theorem natAbs_scale (n : Int) : (n * (T : Int)).natAbs = n.natAbs * T := by
  rw [Int.natAbs_mul, Int.natAbs_natCast]
theorem scale_neg (n : Int) : n * (T : Int) < 0 ↔ n < 0 := by
  have := pow1074
  constructor
  · intro h
    by_cases hc : n < 0
    · exact hc
    · have := Int.mul_nonneg (Int.not_lt.1 hc) (Int.le_of_lt this); omega
  · intro h; exact Int.mul_neg_of_neg_of_pos h this
theorem key_FI (n : Int) : Fl.key (FI n) = KR (n * (T : Int)) := by
  rw [FI_eq, ← natAbs_scale]
  exact key_enc _ _ (fun _ => by simp only [scale_neg])
theorem ne_false_of_key {a b : Nat} (ha : nanB a = false) (hb : nanB b = false) (h : Fl.key a = Fl.key b) : (FloatKind.f64.format.order a b != some .eq) = false := by
  have e : FloatKind.f64.format.order a b = some (compare (Fl.key a) (Fl.key b)) := Fl.order_key (Fl.nanB_false.1 ha) (Fl.nanB_false.1 hb)
  rw [e, h]; simp
theorem eq_true_of_key {a b : Nat} (ha : nanB a = false) (hb : nanB b = false) (h : Fl.key a = Fl.key b) : (FloatKind.f64.format.order a b == some .eq) = true := by
  have e : FloatKind.f64.format.order a b = some (compare (Fl.key a) (Fl.key b)) := Fl.order_key (Fl.nanB_false.1 ha) (Fl.nanB_false.1 hb)
  rw [e, h]; simp

section
variable {m n : Int} (hm : m.natAbs < 2 ^ 26) (hn : n.natAbs < 2 ^ 26)
include hm hn
theorem whole_add : (FloatKind.f64.format.order (opF 2 (FI m) (FI n)) (FI (m + n)) != some .eq) = false := by
  obtain ⟨a1, a2, a3, -⟩ := FI_facts (n := m) (by omega)
  obtain ⟨b1, b2, b3, -⟩ := FI_facts (n := n) (by omega)
  obtain ⟨c1, -⟩ := FI_facts (n := m + n) (by omega)
  obtain ⟨d1, d2⟩ := add_key a2 b2
  exact ne_false_of_key d1 c1 (by rw [d2, key_FI, a3, b3, Int.add_mul])
theorem whole_sub : (FloatKind.f64.format.order (opF 3 (FI m) (FI n)) (FI (m - n)) != some .eq) = false := by
  obtain ⟨a1, a2, a3, -⟩ := FI_facts (n := m) (by omega)
  obtain ⟨b1, b2, b3, -⟩ := FI_facts (n := n) (by omega)
  obtain ⟨c1, -⟩ := FI_facts (n := m - n) (by omega)
  obtain ⟨d1, d2⟩ := sub_key (FI_lt n) a2 b2
  exact ne_false_of_key d1 c1 (by rw [d2, key_FI, a3, b3, Int.sub_mul])
omit hn in
theorem whole_neg (y : Nat) : (FloatKind.f64.format.order (opF 1 (FI m) y) (FI (-m)) != some .eq) = false := by
  obtain ⟨a1, a2, a3, -⟩ := FI_facts (n := m) (by omega)
  obtain ⟨c1, -⟩ := FI_facts (n := -m) (by omega)
  have hN : nanB (negW (FI m)) = false := by rw [Fl.nanB_neg (FI_lt m)]; exact a1
  have e : opF 1 (FI m) y = negW (FI m) := canon_num hN
  rw [e]
  refine ne_false_of_key hN c1 ?_
  rw [Fl.key_neg (FI_lt m), key_FI, key_FI, Int.neg_mul]
  generalize m * (T : Int) = v
  unfold KR
  rw [Int.natAbs_neg]
  by_cases h0 : v = 0
  · subst h0; rw [show (0 : Int).natAbs = 0 from rfl, Fl.Rq_zero]; rfl
  · by_cases h1 : v < 0
    · rw [if_pos h1, if_neg (by omega)]; omega
    · rw [if_neg h1, if_pos (by omega)]
theorem whole_min_lt (h : m < n) : opF 6 (FI m) (FI n) = FI m ∧ opF 7 (FI m) (FI n) = FI n ∧ opF 6 (FI n) (FI m) = FI m ∧ opF 7 (FI n) (FI m) = FI n := by
  obtain ⟨a1, a2, a3, -⟩ := FI_facts (n := m) (by omega)
  obtain ⟨b1, b2, b3, -⟩ := FI_facts (n := n) (by omega)
  have hV : Fl.V (FI m) < Fl.V (FI n) := by rw [a3, b3]; exact Int.mul_lt_mul_of_pos_right h pow1074
  have hk := (Fl.V_lt_iff (x := FI m) (y := FI n) (by omega) (by omega)).1 hV
  have hp : placeI (FI m) < placeI (FI n) := by
    unfold Fl.key Fl.vals at hk
    unfold placeI
    cases h1 : sg (FI m) <;> cases h2 : sg (FI n) <;> rw [h1, h2] at hk <;> simp at hk ⊢ <;> omega
  rw [min_num a1 b1, max_num (FI_lt m) (FI_lt n) a1 b1, min_num b1 a1, max_num (FI_lt n) (FI_lt m) b1 a1, if_pos hp, if_neg (by omega), if_neg (by omega), if_pos hp]
  exact ⟨rfl, rfl, rfl, rfl⟩
theorem whole_min : (FloatKind.f64.format.order (opF 6 (FI m) (FI n)) (FI (min m n)) != some .eq) = false ∧ (FloatKind.f64.format.order (opF 7 (FI m) (FI n)) (FI (max m n)) != some .eq) = false := by
  obtain ⟨a1, -⟩ := FI_facts (n := m) (by omega)
  obtain ⟨b1, -⟩ := FI_facts (n := n) (by omega)
  rcases Int.lt_trichotomy m n with h | h | h
  · obtain ⟨e1, e2, -⟩ := whole_min_lt hm hn h
    rw [e1, e2, show min m n = m by omega, show max m n = n by omega]
    exact ⟨ne_false_of_key a1 a1 rfl, ne_false_of_key b1 b1 rfl⟩
  · subst h
    rw [min_num a1 a1, max_num (FI_lt m) (FI_lt m) a1 a1, show min m m = m by omega, show max m m = m by omega]
    simp only [ite_self]
    exact ⟨ne_false_of_key a1 a1 rfl, ne_false_of_key a1 a1 rfl⟩
  · obtain ⟨-, -, e1, e2⟩ := whole_min_lt hn hm h
    rw [e1, e2, show min m n = n by omega, show max m n = m by omega]
    exact ⟨ne_false_of_key b1 b1 rfl, ne_false_of_key a1 a1 rfl⟩
end

/-- How a whole number that is not 0 is read. -/
theorem read_FI {n : Int} (h : n.natAbs < 2 ^ 53) (h0 : n ≠ 0) : ∃ M i : Nat, double.read (FI n) = .number (decide (n < 0)) M (-(i : Int)) ∧ i ≤ 52 ∧ M = n.natAbs * 2 ^ i ∧ 2 ^ 52 ≤ M ∧ M < 2 ^ 53 := by
  obtain ⟨a1, a2, a3, a4, a5⟩ := FI_facts h
  obtain ⟨M, p, e, hp, hv, hM, hN⟩ := Fl.read_fin a2
  rw [a4] at hv
  rw [a5] at e
  have hna : 0 < n.natAbs := by omega
  have hp1 : -52 ≤ p := by
    by_cases hc : -52 ≤ p
    · exact hc
    · exfalso
      have h1 : 2 ^ 53 * 2 ^ (p + 1074).toNat ≤ T := by
        rw [← Nat.pow_add]; exact pow_le_T (by omega)
      have h2 : M * 2 ^ (p + 1074).toNat < 2 ^ 53 * 2 ^ (p + 1074).toNat := Nat.mul_lt_mul_of_pos_right hM (Nat.two_pow_pos _)
      have h3 : 1 * T ≤ n.natAbs * T := Nat.mul_le_mul_right _ hna
      rw [hv] at h2
      rw [Nat.one_mul] at h3
      exact absurd (Nat.lt_of_lt_of_le h2 h1) (Nat.not_lt.2 h3)
  have hM2 : 2 ^ 52 ≤ M := by rcases hN with h | h <;> omega
  have hp2 : p ≤ 0 := by
    by_cases hc : p ≤ 0
    · exact hc
    · exfalso
      have h1 : 2 ^ 53 * T ≤ 2 ^ 52 * 2 ^ (p + 1074).toNat := by
        have hT : T ≤ 2 ^ ((p + 1074).toNat - 1) := T_le_pow (by omega)
        have hs : (p + 1074).toNat = 1 + ((p + 1074).toNat - 1) := by omega
        rw [hs, Nat.pow_add, ← Nat.mul_assoc]
        exact Nat.mul_le_mul_left _ hT
      have h2 : 2 ^ 52 * 2 ^ (p + 1074).toNat ≤ M * 2 ^ (p + 1074).toNat := Nat.mul_le_mul_right _ hM2
      have h3 : n.natAbs * T < 2 ^ 53 * T := Nat.mul_lt_mul_of_pos_right h T_pos
      rw [hv] at h2
      exact absurd h3 (Nat.not_lt.2 (Nat.le_trans h1 h2))
  obtain ⟨i, rfl⟩ : ∃ i : Nat, p = -(i : Int) := ⟨(-p).toNat, by omega⟩
  refine ⟨M, i, e, by omega, ?_, hM2, hM⟩
  have h1 : M * 2 ^ (-(i : Int) + 1074).toNat = n.natAbs * 2 ^ i * 2 ^ (-(i : Int) + 1074).toNat := by
    rw [hv, Nat.mul_assoc, T_split (k := (-(i : Int) + 1074).toNat) (by omega), show 1074 - (-(i : Int) + 1074).toNat = i by omega]
  exact Nat.eq_of_mul_eq_mul_right (Nat.two_pow_pos _) h1
theorem FI_zero : FI 0 = 0 := by decide +kernel
theorem sgn_mul {m n : Int} (hm : m ≠ 0) (hn : n ≠ 0) : (decide (m < 0) ^^ decide (n < 0)) = decide (m * n < 0) := by
  by_cases a : m < 0 <;> by_cases b : n < 0
  · have : 0 < m * n := Int.mul_pos_of_neg_of_neg a b
    rw [decide_eq_true a, decide_eq_true b, decide_eq_false (by omega)]; rfl
  · have : m * n < 0 := Int.mul_neg_of_neg_of_pos a (by omega)
    rw [decide_eq_true a, decide_eq_false b, decide_eq_true this]; rfl
  · have : m * n < 0 := Int.mul_neg_of_pos_of_neg (by omega) b
    rw [decide_eq_false a, decide_eq_true b, decide_eq_true this]; rfl
  · have : 0 < m * n := Int.mul_pos (by omega) (by omega)
    rw [decide_eq_false a, decide_eq_false b, decide_eq_false (by omega)]; rfl
theorem nearest_FI (s : Bool) (n : Int) (k : Nat) (hs : s = decide (n < 0)) : double.nearest s (n.natAbs * 2 ^ k) (-(k : Int)) = FI n := by
  have := Fl.nearest_scale s n.natAbs k 0
  rw [show (0 - (k : Int)) = -(k : Int) by omega] at this
  rw [this, hs]
  rfl
theorem mul_exact {m n : Int} (hm : m.natAbs < 2 ^ 26) (hn : n.natAbs < 2 ^ 26) (m0 : m ≠ 0) (n0 : n ≠ 0) : double.mul (FI m) (FI n) = some (FI (m * n)) := by
  obtain ⟨M, i, e1, hi, hM, -⟩ := read_FI (n := m) (by omega) m0
  obtain ⟨N, j, e2, hj, hN, -⟩ := read_FI (n := n) (by omega) n0
  unfold Format.mul
  rw [e1, e2]
  simp only [Datum.product, Option.map_some, Option.some.injEq]
  show double.nearest _ _ _ = _
  have := nearest_FI (decide (m < 0) ^^ decide (n < 0)) (m * n) (i + j) (sgn_mul m0 n0)
  rw [Int.natAbs_mul] at this
  rw [← this, hM, hN, show (-(i : Int) + -(j : Int)) = -((i + j : Nat) : Int) by omega]
  congr 1
  rw [Nat.pow_add, Nat.mul_assoc, Nat.mul_left_comm (2 ^ i), ← Nat.mul_assoc]
theorem prod_lt {m n : Int} (hm : m.natAbs < 2 ^ 26) (hn : n.natAbs < 2 ^ 26) : (m * n).natAbs < 2 ^ 52 := by
  rw [Int.natAbs_mul]
  have : m.natAbs * n.natAbs ≤ (2 ^ 26 - 1) * (2 ^ 26 - 1) := Nat.mul_le_mul (by omega) (by omega)
  omega
/-- A product with 0 is a 0. -/
theorem mul_zero_key {m n : Int} (hm : m.natAbs < 2 ^ 26) (hn : n.natAbs < 2 ^ 26) (h : m = 0 ∨ n = 0) : ∃ r, double.mul (FI m) (FI n) = some r ∧ nanB r = false ∧ rg r = 0 := by
  obtain ⟨a1, a2, a3, a4, a5⟩ := FI_facts (n := m) (by omega)
  obtain ⟨b1, b2, b3, b4, b5⟩ := FI_facts (n := n) (by omega)
  obtain ⟨M, p, e, hM⟩ := Fl.read_zero_mag a2
  obtain ⟨N, q, e2, hN⟩ := Fl.read_zero_mag b2
  have hz : M * N = 0 := by
    rcases h with h | h
    · subst h; rw [hM.2 (by rw [FI_zero]; rfl)]; simp
    · subst h; rw [hN.2 (by rw [FI_zero]; rfl)]; simp
  refine ⟨double.nearest (sg (FI m) ^^ sg (FI n)) 0 (p + q), ?_, (Fl.nearest_cls _ _ _).1, ?_⟩
  · unfold Format.mul
    rw [e, e2]
    simp only [Datum.product, Option.map_some, hz]
    rfl
  · rw [Fl.nearest_eq]
    simp only [Nat.zero_mul, Fl.Rq_zero, ite_self]
    exact Fl.rg_wd _ (by decide)
theorem key_rg0 {r : Nat} (h : rg r = 0) : Fl.key r = 0 := by unfold Fl.key Fl.vals; rw [h]; cases sg r <;> rfl
theorem key_FI0 : Fl.key (FI 0) = 0 := by rw [FI_zero]; rfl
theorem whole_mul {m n : Int} (hm : m.natAbs < 2 ^ 26) (hn : n.natAbs < 2 ^ 26) : (FloatKind.f64.format.order (opF 4 (FI m) (FI n)) (FI (m * n)) != some .eq) = false := by
  have hp := prod_lt hm hn
  obtain ⟨c1, -⟩ := FI_facts (n := m * n) (by omega)
  by_cases h : m = 0 ∨ n = 0
  · obtain ⟨r, hr, hnr, h0⟩ := mul_zero_key hm hn h
    have S := opt_num hr hnr
    refine ne_false_of_key S.2 c1 ?_
    show Fl.key (opt _) = _
    rw [S.1, key_rg0 h0]
    rcases h with h | h <;> subst h
    · rw [Int.zero_mul, key_FI0]
    · rw [Int.mul_zero, key_FI0]
  · have S := opt_num (mul_exact hm hn (by omega) (by omega)) c1
    refine ne_false_of_key S.2 c1 ?_
    show Fl.key (opt _) = _
    rw [S.1]
theorem whole_div {m n : Int} (hm : m.natAbs < 2 ^ 26) (hn : n.natAbs < 2 ^ 26) (n0 : n ≠ 0) : (FloatKind.f64.format.order (opF 5 (opF 4 (FI m) (FI n)) (FI n)) (FI m) == some .eq) = true := by
  have hp := prod_lt hm hn
  obtain ⟨a1, -⟩ := FI_facts (n := m) (by omega)
  obtain ⟨c1, -⟩ := FI_facts (n := m * n) (by omega)
  obtain ⟨N, j, e2, hj, hN, hN1, hN2⟩ := read_FI (n := n) (by omega) n0
  by_cases h : m = 0
  · obtain ⟨r, hr, hnr, h0⟩ := mul_zero_key hm hn (.inl h)
    have S := opt_num hr hnr
    have e4 : opF 4 (FI m) (FI n) = r := S.1
    rw [e4]
    obtain ⟨P, p, e, hP⟩ := Fl.read_zero_mag (x := r) (by rw [h0]; decide)
    have hP0 : P = 0 := hP.2 h0
    have hd : double.div r (FI n) = some (double.nearest (sg r ^^ decide (n < 0)) 0 (p - -(j : Int) - ((double.fractionBits + 2 + N.log2 - P.log2 : Nat) : Int) - 1)) := by
      unfold Format.div
      rw [e, e2]
      simp only [Datum.quotient]
      rw [if_neg (by omega), hP0]
      simp
      rfl
    have T := opt_num hd (Fl.nearest_cls _ _ _).1
    have e5 : opF 5 r (FI n) = _ := T.1
    have hk : Fl.key (opF 5 r (FI n)) = 0 := by
      rw [e5]
      apply key_rg0
      rw [Fl.nearest_eq]
      simp only [Nat.zero_mul, Fl.Rq_zero, ite_self]
      exact Fl.rg_wd _ (by decide)
    exact eq_true_of_key T.2 a1 (by rw [hk, h, key_FI0])
  · have S := opt_num (mul_exact hm hn h n0) c1
    have e4 : opF 4 (FI m) (FI n) = FI (m * n) := S.1
    rw [e4]
    have mn0 : m * n ≠ 0 := Int.mul_ne_zero h n0
    obtain ⟨P, k, e, hk, hP, hP1, hP2⟩ := read_FI (n := m * n) (by omega) mn0
    have lP : P.log2 = 52 := Fl.log2_unique hP1 hP2
    have lN : N.log2 = 52 := Fl.log2_unique hN1 hN2
    have hd : double.div (FI (m * n)) (FI n) = some (FI m) := by
      unfold Format.div
      rw [e, e2]
      simp only [Datum.quotient]
      rw [if_neg (by omega), lP, lN]
      rw [show double.fractionBits + 2 + 52 - 52 = 54 from rfl, Nat.shiftLeft_eq]
      have hPN : P * 2 ^ 54 = (m.natAbs * 2 ^ (54 + k - j)) * N := by
        rw [hP, hN, Int.natAbs_mul]
        rw [show m.natAbs * n.natAbs * 2 ^ k * 2 ^ 54 = m.natAbs * n.natAbs * (2 ^ k * 2 ^ 54) by rw [Nat.mul_assoc]]
        rw [show m.natAbs * 2 ^ (54 + k - j) * (n.natAbs * 2 ^ j) = m.natAbs * n.natAbs * (2 ^ (54 + k - j) * 2 ^ j) by rw [Nat.mul_mul_mul_comm]]
        rw [← Nat.pow_add, ← Nat.pow_add]
        congr 2
        omega
      rw [hPN, Nat.mul_div_cancel _ (by omega), Nat.mul_mod_left]
      simp only [bne_self_eq_false, Bool.toNat_false, Nat.add_zero, Option.map_some, Option.some.injEq]
      show double.nearest _ _ _ = _
      have hs : (decide (m * n < 0) ^^ decide (n < 0)) = decide (m < 0) := by
        rw [← sgn_mul h n0]; cases decide (m < 0) <;> cases decide (n < 0) <;> rfl
      have := nearest_FI (decide (m * n < 0) ^^ decide (n < 0)) m (55 + k - j) hs
      rw [← this]
      rw [show (-(k : Int) - -(j : Int) - ((54 : Nat) : Int) - 1) = -((55 + k - j : Nat) : Int) by omega]
      congr 1
      rw [show 55 + k - j = (54 + k - j) + 1 by omega, Nat.pow_succ]
      rw [Nat.mul_comm 2, Nat.mul_assoc]
    have T := opt_num hd a1
    have e5 : opF 5 (FI (m * n)) (FI n) = FI m := T.1
    rw [e5]
    exact eq_true_of_key a1 a1 rfl
end Go.Proofs.Ytompdlhhfpjebaa
