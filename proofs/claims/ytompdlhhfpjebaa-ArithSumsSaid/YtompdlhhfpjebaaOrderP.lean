/- The plain law of ArithOrder. -/
import Derived.Test.YtompdlhhfpjebaaEdges
namespace Go.Proofs.Ytompdlhhfpjebaa
set_option linter.unusedVariables false
open Go.RowKit
open Fl (nanB canon qnan sg rg negW)
open Ieee
theorem place_neg {x : Nat} (h : x < 2 ^ 64) : placeI (negW x) = -1 - placeI x := by
  unfold placeI
  rw [Fl.sg_neg h, Fl.rg_neg h]
  cases sg x <;> simp <;> omega
theorem least_num {x y : Nat} (hx : nanB x = false) (hy : nanB y = false) : leastF x y = if placeI x < placeI y then x else y := by
  unfold leastF
  rw [hx, hy, canon_num hx, canon_num hy, Bool.or_self, if_neg (by simp)]
  simp only [cmpI_neg]
theorem great_num {x y : Nat} (lx : x < 2 ^ 64) (ly : y < 2 ^ 64) (hx : nanB x = false) (hy : nanB y = false) : greatF x y = if placeI y < placeI x then x else y := by
  unfold greatF
  rw [least_num (by rw [Fl.nanB_neg lx]; exact hx) (by rw [Fl.nanB_neg ly]; exact hy), place_neg lx, place_neg ly]
  by_cases h : placeI y < placeI x
  · rw [if_pos h, if_pos (by omega), Fl.neg_neg lx]
  · rw [if_neg h, if_neg (by omega), Fl.neg_neg ly]
theorem min_num {x y : Nat} (hx : nanB x = false) (hy : nanB y = false) : opF 6 x y = if placeI x < placeI y then x else y := by
  show canon (leastF x y) = _
  rw [least_num hx hy]
  split <;> (apply canon_num; assumption)
theorem max_num {x y : Nat} (lx : x < 2 ^ 64) (ly : y < 2 ^ 64) (hx : nanB x = false) (hy : nanB y = false) : opF 7 x y = if placeI y < placeI x then x else y := by
  show canon (greatF x y) = _
  rw [great_num lx ly hx hy]
  split <;> (apply canon_num; assumption)
theorem min_spec {x y : Nat} (hx : nanB x = false) (hy : nanB y = false) : nanB (opF 6 x y) = false ∧ placeI (opF 6 x y) = min (placeI x) (placeI y) := by
  rw [min_num hx hy]
  split
  · exact ⟨hx, by omega⟩
  · exact ⟨hy, by omega⟩
theorem max_spec {x y : Nat} (lx : x < 2 ^ 64) (ly : y < 2 ^ 64) (hx : nanB x = false) (hy : nanB y = false) : nanB (opF 7 x y) = false ∧ placeI (opF 7 x y) = max (placeI x) (placeI y) := by
  rw [max_num lx ly hx hy]
  split
  · exact ⟨hx, by omega⟩
  · exact ⟨hy, by omega⟩
theorem neg_spec {x : Nat} (lx : x < 2 ^ 64) (hx : nanB x = false) : opF 1 x 0 = negW x ∧ nanB (opF 1 x 0) = false ∧ placeI (opF 1 x 0) = -1 - placeI x := by
  have h : nanB (negW x) = false := by rw [Fl.nanB_neg lx]; exact hx
  have e : opF 1 x 0 = negW x := canon_num h
  rw [e]
  exact ⟨rfl, h, place_neg lx⟩
theorem same_of_place {a b : Nat} (la : a < 2 ^ 64) (lb : b < 2 ^ 64) (h : placeI a = placeI b) : (canon a == canon b) = true := by
  rw [placeI_inj la lb h]; simp
theorem same_of_nan {a b : Nat} (ha : nanB a = true) (hb : nanB b = true) : (canon a == canon b) = true := by
  rw [canon_nan ha, canon_nan hb]; rfl
theorem nan_cases (x : Nat) : nanB x = true ∨ nanB x = false := by cases nanB x <;> simp
theorem order_min {x y z : Nat} (lx : x < 2 ^ 64) (ly : y < 2 ^ 64) (lz : z < 2 ^ 64) : (canon (opF 6 (opF 6 x y) z) == canon (opF 6 x (opF 6 y z))) = true := by
  have lxy := opF_lt 6 lx ly
  have lyz := opF_lt 6 ly lz
  rcases nan_cases x with hx | hx
  · exact same_of_nan (opF_nan_l (by omega) (by omega) lxy lz (opF_nan_l (by omega) (by omega) lx ly hx)) (opF_nan_l (by omega) (by omega) lx lyz hx)
  rcases nan_cases y with hy | hy
  · exact same_of_nan (opF_nan_l (by omega) (by omega) lxy lz (opF_nan_r (by omega) (by omega) lx ly hy)) (opF_nan_r (by omega) (by omega) lx lyz (opF_nan_l (by omega) (by omega) ly lz hy))
  rcases nan_cases z with hz | hz
  · exact same_of_nan (opF_nan_r (by omega) (by omega) lxy lz hz) (opF_nan_r (by omega) (by omega) lx lyz (opF_nan_r (by omega) (by omega) ly lz hz))
  obtain ⟨a1, a2⟩ := min_spec hx hy
  obtain ⟨b1, b2⟩ := min_spec hy hz
  obtain ⟨c1, c2⟩ := min_spec a1 hz
  obtain ⟨d1, d2⟩ := min_spec hx b1
  exact same_of_place (opF_lt 6 lxy lz) (opF_lt 6 lx lyz) (by rw [c2, d2, a2, b2]; omega)
theorem order_max {x y z : Nat} (lx : x < 2 ^ 64) (ly : y < 2 ^ 64) (lz : z < 2 ^ 64) : (canon (opF 7 (opF 7 x y) z) == canon (opF 7 x (opF 7 y z))) = true := by
  have lxy := opF_lt 7 lx ly
  have lyz := opF_lt 7 ly lz
  rcases nan_cases x with hx | hx
  · exact same_of_nan (opF_nan_l (by omega) (by omega) lxy lz (opF_nan_l (by omega) (by omega) lx ly hx)) (opF_nan_l (by omega) (by omega) lx lyz hx)
  rcases nan_cases y with hy | hy
  · exact same_of_nan (opF_nan_l (by omega) (by omega) lxy lz (opF_nan_r (by omega) (by omega) lx ly hy)) (opF_nan_r (by omega) (by omega) lx lyz (opF_nan_l (by omega) (by omega) ly lz hy))
  rcases nan_cases z with hz | hz
  · exact same_of_nan (opF_nan_r (by omega) (by omega) lxy lz hz) (opF_nan_r (by omega) (by omega) lx lyz (opF_nan_r (by omega) (by omega) ly lz hz))
  obtain ⟨a1, a2⟩ := max_spec lx ly hx hy
  obtain ⟨b1, b2⟩ := max_spec ly lz hy hz
  obtain ⟨c1, c2⟩ := max_spec lxy lz a1 hz
  obtain ⟨d1, d2⟩ := max_spec lx lyz hx b1
  exact same_of_place (opF_lt 7 lxy lz) (opF_lt 7 lx lyz) (by rw [c2, d2, a2, b2]; omega)
theorem order_neg {x y : Nat} (lx : x < 2 ^ 64) (ly : y < 2 ^ 64) : (canon (opF 1 (opF 6 x y) 0) == canon (opF 7 (opF 1 x 0) (opF 1 y 0))) = true := by
  have lxy := opF_lt 6 lx ly
  have l0 : (0 : Nat) < 2 ^ 64 := by decide
  have nx := opF_lt 1 lx l0
  have ny := opF_lt 1 ly l0
  rcases nan_cases x with hx | hx
  · exact same_of_nan (opF_nan_l (by omega) (by omega) lxy l0 (opF_nan_l (by omega) (by omega) lx ly hx)) (opF_nan_l (by omega) (by omega) nx ny (opF_nan_l (by omega) (by omega) lx l0 hx))
  rcases nan_cases y with hy | hy
  · exact same_of_nan (opF_nan_l (by omega) (by omega) lxy l0 (opF_nan_r (by omega) (by omega) lx ly hy)) (opF_nan_r (by omega) (by omega) nx ny (opF_nan_l (by omega) (by omega) ly l0 hy))
  obtain ⟨a1, a2⟩ := min_spec hx hy
  obtain ⟨_, b1, b2⟩ := neg_spec lxy a1
  obtain ⟨_, c1, c2⟩ := neg_spec lx hx
  obtain ⟨_, d1, d2⟩ := neg_spec ly hy
  obtain ⟨e1, e2⟩ := max_spec nx ny c1 d1
  exact same_of_place (opF_lt 1 lxy l0) (opF_lt 7 nx ny) (by rw [b2, e2, c2, d2, a2]; omega)
/-- Both are the two numbers, in the order. -/
theorem low_high {x y : Nat} (lx : x < 2 ^ 64) (ly : y < 2 ^ 64) (hx : nanB x = false) (hy : nanB y = false) :
    (opF 6 x y = x ∧ opF 7 x y = y) ∨ ((canon (opF 6 x y) == canon x) = false ∧ opF 6 x y = y ∧ opF 7 x y = x) := by
  rw [min_num hx hy, max_num lx ly hx hy]
  by_cases h : placeI x < placeI y
  · left; rw [if_pos h, if_neg (by omega)]; exact ⟨rfl, rfl⟩
  · by_cases h2 : placeI y < placeI x
    · right; rw [if_neg h, if_pos h2]
      refine ⟨?_, rfl, rfl⟩
      rw [canon_num hx, canon_num hy, beq_eq_false_iff_ne]
      intro e; rw [e] at h2; omega
    · left
      have e : x = y := placeI_inj lx ly (by omega)
      subst e
      rw [if_neg h]; exact ⟨rfl, rfl⟩
theorem cmp_le {x y : Nat} (lx : x < 2 ^ 64) (ly : y < 2 ^ 64) (hx : nanB x = false) (hy : nanB y = false) :
    cmpI (placeI (canon (opF 6 x y))) (placeI (canon (opF 7 x y))) ≤ 0 := by
  rw [canon_opF, canon_opF, (min_spec hx hy).2, (max_spec lx ly hx hy).2]
  unfold cmpI
  split
  · omega
  · split
    · omega
    · omega
/-- Infinite, as math.IsInf asks it. -/
def isInfB (x : Nat) : Bool := FloatKind.f64.format.order (rg x) 9218868437227405311 == some .gt
theorem isInfB_false {x : Nat} (hn : nanB x = false) (h : isInfB x = false) : rg x < Fl.INF := by
  have hr := Fl.nanB_false.1 hn
  by_cases hi : rg x < Fl.INF
  · exact hi
  · have e : rg x = Fl.INF := by omega
    unfold isInfB at h
    rw [e] at h
    exact absurd h (by decide +kernel)
/-! ### Sums keep the order -/
def KR (n : Int) : Int := if n < 0 then -(Fl.Rq 0 n.natAbs : Int) else Fl.Rq 0 n.natAbs
theorem KR_mono {m n : Int} (h : m ≤ n) : KR m ≤ KR n := by
  unfold KR
  by_cases a : m < 0
  · rw [if_pos a]
    by_cases b : n < 0
    · rw [if_pos b]
      have := Fl.Rq_mono 0 (show n.natAbs ≤ m.natAbs by omega)
      omega
    · rw [if_neg b]; omega
  · rw [if_neg a, if_neg (by omega)]
    have := Fl.Rq_mono 0 (show m.natAbs ≤ n.natAbs by omega)
    omega
theorem key_enc (s : Bool) (n : Int) (hs : n ≠ 0 → s = decide (n < 0)) : Fl.key (Fl.enc s n.natAbs) = KR n := by
  unfold Fl.key KR
  rw [Fl.enc_sg, Fl.enc_rg]
  by_cases h0 : n = 0
  · subst h0; unfold Fl.vals; rw [show (0 : Int).natAbs = 0 from rfl, Fl.Rq_zero]; cases s <;> rfl
  · rw [hs h0]
    unfold Fl.vals
    by_cases a : n < 0
    · simp [a]
    · simp [a]
theorem add_key {x y : Nat} (hx : rg x < Fl.INF) (hy : rg y < Fl.INF) : nanB (opF 2 x y) = false ∧ Fl.key (opF 2 x y) = KR (Fl.V x + Fl.V y) := by
  have S := opt_num (Fl.add_fin hx hy) (Fl.enc_nan _ _)
  show nanB (opt _) = false ∧ Fl.key (opt _) = _
  refine ⟨S.2, ?_⟩
  rw [S.1]
  exact key_enc _ _ (fun h => by rw [if_neg h])
theorem sub_key {x y : Nat} (ly : y < 2 ^ 64) (hx : rg x < Fl.INF) (hy : rg y < Fl.INF) : nanB (opF 3 x y) = false ∧ Fl.key (opF 3 x y) = KR (Fl.V x - Fl.V y) := by
  have e : opF 3 x y = opF 2 x (negW y) := by
    show opt (double.sub x y) = opt (double.add x (negW y))
    rw [Fl.sub_eq_add ly]
  have := add_key hx (y := negW y) (by rw [Fl.rg_neg ly]; exact hy)
  rw [e, Int.sub_eq_add_neg, ← Fl.V_neg ly]
  exact this
theorem ord_le {a b : Nat} (ha : nanB a = false) (hb : nanB b = false) (h : Fl.key a ≤ Fl.key b) :
    (FloatKind.f64.format.order a b == some .lt || FloatKind.f64.format.order a b == some .eq) = true := by
  have e : FloatKind.f64.format.order a b = some (compare (Fl.key a) (Fl.key b)) := Fl.order_key (Fl.nanB_false.1 ha) (Fl.nanB_false.1 hb)
  rw [e]
  rcases Int.lt_or_eq_of_le h with h | h
  · rw [Int.compare_eq_lt.2 h]; rfl
  · rw [Int.compare_eq_eq.2 h]; rfl
theorem ord_ge {a b : Nat} (ha : nanB a = false) (hb : nanB b = false) (h : Fl.key b ≤ Fl.key a) :
    (FloatKind.f64.format.order a b == some .gt || FloatKind.f64.format.order a b == some .eq) = true := by
  have e : FloatKind.f64.format.order a b = some (compare (Fl.key a) (Fl.key b)) := Fl.order_key (Fl.nanB_false.1 ha) (Fl.nanB_false.1 hb)
  rw [e]
  rcases Int.lt_or_eq_of_le h with h | h
  · rw [Int.compare_eq_gt.2 h]; rfl
  · rw [Int.compare_eq_eq.2 h.symm]; rfl
theorem V_le_of_place {a b : Nat} (ha : rg a ≤ Fl.INF) (hb : rg b ≤ Fl.INF) (h : placeI a ≤ placeI b) : Fl.V a ≤ Fl.V b := by
  by_cases hc : Fl.V b < Fl.V a
  · have := (Fl.V_lt_iff hb ha).1 hc
    unfold Fl.key Fl.vals at this
    unfold placeI at h
    cases h1 : sg a <;> cases h2 : sg b <;> rw [h1, h2] at this h <;> simp at this h <;> omega
  · omega
theorem order_sums {x y z : Nat} (lx : x < 2 ^ 64) (ly : y < 2 ^ 64) (lz : z < 2 ^ 64) (hx : nanB x = false) (hy : nanB y = false) (ix : rg x < Fl.INF) (iy : rg y < Fl.INF) (iz : rg z < Fl.INF) :
    (FloatKind.f64.format.order (opF 2 (opF 6 x y) z) (opF 2 (opF 7 x y) z) == some .lt || FloatKind.f64.format.order (opF 2 (opF 6 x y) z) (opF 2 (opF 7 x y) z) == some .eq) = true ∧
    (FloatKind.f64.format.order (opF 3 z (opF 6 x y)) (opF 3 z (opF 7 x y)) == some .gt || FloatKind.f64.format.order (opF 3 z (opF 6 x y)) (opF 3 z (opF 7 x y)) == some .eq) = true := by
  have hp : placeI (opF 6 x y) ≤ placeI (opF 7 x y) := by rw [(min_spec hx hy).2, (max_spec lx ly hx hy).2]; omega
  have hfin : rg (opF 6 x y) < Fl.INF ∧ rg (opF 7 x y) < Fl.INF := by
    rcases low_high lx ly hx hy with ⟨a, b⟩ | ⟨_, a, b⟩ <;> rw [a, b]
    · exact ⟨ix, iy⟩
    · exact ⟨iy, ix⟩
  have ll := opF_lt 6 lx ly
  have lh := opF_lt 7 lx ly
  have hV := V_le_of_place (by omega) (by omega) hp
  obtain ⟨a1, a2⟩ := add_key hfin.1 iz
  obtain ⟨b1, b2⟩ := add_key hfin.2 iz
  obtain ⟨c1, c2⟩ := sub_key ll iz hfin.1
  obtain ⟨d1, d2⟩ := sub_key lh iz hfin.2
  exact ⟨ord_le a1 b1 (by rw [a2, b2]; exact KR_mono (by omega)), ord_ge c1 d1 (by rw [c2, d2]; exact KR_mono (by omega))⟩
end Go.Proofs.Ytompdlhhfpjebaa
