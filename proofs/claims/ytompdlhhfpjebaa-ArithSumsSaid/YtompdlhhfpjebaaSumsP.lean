/- The plain law of ArithSums. -/
import Derived.Test.YtompdlhhfpjebaaSumsB
namespace Go.Proofs.Ytompdlhhfpjebaa
set_option linter.unusedVariables false
open Go.RowKit
open Fl (nanB canon qnan sg rg negW)
theorem add_nz_left {x : Nat} (hx : x < 2 ^ 64) : canon (opF 2 9223372036854775808 x) = canon x := by
  show canon (opt (Ieee.double.add 9223372036854775808 x)) = canon x
  rw [Fl.add_comm, canon_opt]
  cases h : nanB x with
  | true => rw [Fl.add_nan_l h, canon_nan h]; rfl
  | false => rw [show (9223372036854775808 : Nat) = Fl.SGN from rfl, Fl.add_nz hx h]; rfl
theorem sum_one {x : Nat} (hx : x < 2 ^ 64) : (canon (sumF [x]) == canon x) = true := by
  show (canon (opF 2 9223372036854775808 x) == canon x) = true
  rw [add_nz_left hx]; simp
/-- What a fold by Min comes to. -/
structure MinOf (a : Nat) (xs : List Nat) (r : Nat) : Prop where
  lt : r < 2 ^ 64
  nan : nanB r = (nanB a || xs.any nanB)
  head : nanB r = false → placeI r ≤ placeI a
  all : nanB r = false → ∀ x ∈ xs, placeI r ≤ placeI x
  hit : nanB r = false → placeI r = placeI a ∨ ∃ x ∈ xs, placeI r = placeI x
theorem fold_min (xs : List Nat) : ∀ a, a < 2 ^ 64 → (∀ x ∈ xs, x < 2 ^ 64) → MinOf a xs (xs.foldl (opF 6) a) := by
  induction xs with
  | nil =>
    intro a ha _
    exact ⟨ha, by simp, fun _ => Int.le_refl _, fun _ x hx => (by cases hx), fun _ => .inl rfl⟩
  | cons y ys ih =>
    intro a ha hx
    have hy := hx y (by simp)
    have hm := ih (opF 6 a y) (opF_lt 6 ha hy) (fun x h => hx x (by simp [h]))
    show MinOf a (y :: ys) (ys.foldl (opF 6) (opF 6 a y))
    generalize ys.foldl (opF 6) (opF 6 a y) = r at hm
    have hnan : nanB (opF 6 a y) = (nanB a || nanB y) := by
      rcases nan_cases a with h | h
      · rw [opF_nan_l (by omega) (by omega) ha hy h, h]; rfl
      · rcases nan_cases y with h2 | h2
        · rw [opF_nan_r (by omega) (by omega) ha hy h2, h2]; simp
        · rw [(min_spec h h2).1, h, h2]; rfl
    have hn : nanB r = (nanB a || (y :: ys).any nanB) := by rw [hm.nan, hnan]; simp [Bool.or_assoc]
    have hp : nanB r = false → placeI (opF 6 a y) = min (placeI a) (placeI y) := by
      intro h
      rw [hn] at h
      simp only [List.any_cons, Bool.or_eq_false_iff] at h
      exact (min_spec h.1 h.2.1).2
    refine ⟨hm.lt, hn, fun h => ?_, fun h x hx' => ?_, fun h => ?_⟩
    · have a1 := hm.head h; rw [hp h] at a1; omega
    · rcases List.mem_cons.1 hx' with rfl | h'
      · have a1 := hm.head h; rw [hp h] at a1; omega
      · exact hm.all h x h'
    · rcases hm.hit h with e | ⟨x, hx1, e⟩
      · rw [hp h] at e
        by_cases c : placeI a ≤ placeI y
        · left; omega
        · right; exact ⟨y, by simp, by omega⟩
      · right; exact ⟨x, by simp [hx1], e⟩
/-- The least of a list. -/
structure IsLeast (xs : List Nat) (r : Nat) : Prop where
  lt : r < 2 ^ 64
  nan : nanB r = xs.any nanB
  all : nanB r = false → ∀ x ∈ xs, placeI r ≤ placeI x
  hit : nanB r = false → ∃ x ∈ xs, placeI r = placeI x
theorem leastL_spec (xs : List Nat) (h0 : xs ≠ []) (hx : ∀ x ∈ xs, x < 2 ^ 64) : IsLeast xs (leastL xs) := by
  cases xs with
  | nil => exact absurd rfl h0
  | cons y ys =>
    have hy := hx y (by simp)
    have hm := fold_min (y :: ys) (canon y) (Fl.canon_lt hy) hx
    have e : leastL (y :: ys) = (y :: ys).foldl (opF 6) (canon y) := rfl
    rw [e]
    generalize (y :: ys).foldl (opF 6) (canon y) = r at hm
    have hn : nanB r = (y :: ys).any nanB := by rw [hm.nan, Fl.nanB_canon]; simp
    refine ⟨hm.lt, hn, hm.all, fun h => ?_⟩
    rcases hm.hit h with e | h'
    · refine ⟨y, by simp, ?_⟩
      rw [hn] at h
      simp only [List.any_cons, Bool.or_eq_false_iff] at h
      rw [e, canon_num h.1]
    · exact h'
theorem least_same {xs ys : List Nat} {r s : Nat} (hr : IsLeast xs r) (hs : IsLeast ys s) (hm : ∀ x, x ∈ xs ↔ x ∈ ys) : (canon r == canon s) = true := by
  have hn : nanB r = nanB s := by
    rw [hr.nan, hs.nan, Bool.eq_iff_iff, List.any_eq_true, List.any_eq_true]
    constructor
    · rintro ⟨x, h, h2⟩; exact ⟨x, (hm x).1 h, h2⟩
    · rintro ⟨x, h, h2⟩; exact ⟨x, (hm x).2 h, h2⟩
  rcases nan_cases r with h | h
  · exact same_of_nan h (hn ▸ h)
  · have h2 : nanB s = false := hn ▸ h
    obtain ⟨x, hx, ex⟩ := hr.hit h
    obtain ⟨y, hy, ey⟩ := hs.hit h2
    have a := hr.all h y ((hm y).2 hy)
    have b := hs.all h2 x ((hm x).1 hx)
    exact same_of_place hr.lt hs.lt (by omega)
theorem least_both {xs ys : List Nat} {a b : Nat} (ha : IsLeast xs a) (hb : IsLeast ys b) : IsLeast (xs ++ ys) (opF 6 a b) := by
  have hn : nanB (opF 6 a b) = (nanB a || nanB b) := by
    rcases nan_cases a with h | h
    · rw [opF_nan_l (by omega) (by omega) ha.lt hb.lt h, h]; rfl
    · rcases nan_cases b with h2 | h2
      · rw [opF_nan_r (by omega) (by omega) ha.lt hb.lt h2, h2]; simp
      · rw [(min_spec h h2).1, h, h2]; rfl
  have hp : nanB (opF 6 a b) = false → nanB a = false ∧ nanB b = false ∧ placeI (opF 6 a b) = min (placeI a) (placeI b) := by
    intro h
    rw [hn] at h
    simp only [Bool.or_eq_false_iff] at h
    exact ⟨h.1, h.2, (min_spec h.1 h.2).2⟩
  refine ⟨opF_lt 6 ha.lt hb.lt, by rw [hn, ha.nan, hb.nan, List.any_append], fun h x hx => ?_, fun h => ?_⟩
  · obtain ⟨h1, h2, h3⟩ := hp h
    rcases List.mem_append.1 hx with h' | h'
    · have := ha.all h1 x h'; omega
    · have := hb.all h2 x h'; omega
  · obtain ⟨h1, h2, h3⟩ := hp h
    obtain ⟨x, hx, ex⟩ := ha.hit h1
    obtain ⟨y, hy, ey⟩ := hb.hit h2
    by_cases c : placeI a ≤ placeI b
    · exact ⟨x, List.mem_append.2 (.inl hx), by omega⟩
    · exact ⟨y, List.mem_append.2 (.inr hy), by omega⟩
theorem sum_app (p q : List Nat) (i : Nat) (h : i < q.length) : sumF (p ++ q.take (i + 1)) = opF 2 (sumF (p ++ q.take i)) (q[i]?.getD 0) := by
  rw [take_snoc q i h, ← List.append_assoc, sumF_snoc]
end Go.Proofs.Ytompdlhhfpjebaa
