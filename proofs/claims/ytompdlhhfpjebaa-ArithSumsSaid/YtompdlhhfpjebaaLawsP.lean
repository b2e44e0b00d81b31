/- The plain law of ArithLaws: laws that hold, hold for all numbers; those that do not have witnesses. -/
import Derived.Test.YtompdlhhfpjebaaN
import Derived.Test.YtompdlhhfpjebaaFlc
namespace Go.Proofs.Ytompdlhhfpjebaa
set_option linter.unusedVariables false
open Go.RowKit
open Fl (nanB canon qnan sg rg negW)
theorem canon_nan {x : Nat} (h : nanB x = true) : canon x = qnan := by unfold canon; rw [if_pos h]
theorem canon_num {x : Nat} (h : nanB x = false) : canon x = x := by unfold canon; rw [if_neg (by simp [h])]
theorem canon_qnan : canon qnan = qnan := canon_nan Fl.qnan_nan
theorem canon_opt (o : Option Nat) : canon (opt o) = opt o := by
  cases o with
  | none => exact canon_qnan
  | some r => exact Fl.canon_canon r
theorem opt_add_canon (x y : Nat) : opt (Ieee.double.add x (canon y)) = opt (Ieee.double.add x y) := by
  cases h : nanB y with
  | true => rw [canon_nan h, Fl.add_nan_r Fl.qnan_nan, Fl.add_nan_r h]
  | false => rw [canon_num h]
theorem placeI_inj {x y : Nat} (hx : x < 2 ^ 64) (hy : y < 2 ^ 64) (h : placeI x = placeI y) : x = y := by
  rw [← Fl.wd_sg_rg hx, ← Fl.wd_sg_rg hy]
  unfold placeI at h
  cases h1 : sg x <;> cases h2 : sg y <;> rw [h1, h2] at h <;> simp at h
  · have : rg x = rg y := by omega
    rw [this]
  · omega
  · omega
  · have : rg x = rg y := by omega
    rw [this]
theorem cmpI_neg (a b : Int) : cmpI a b < 0 ↔ a < b := by
  unfold cmpI
  by_cases h : a < b
  · simp [h]
  · rw [if_neg h]; split <;> simp <;> omega
theorem least_comm {x y : Nat} (hx : x < 2 ^ 64) (hy : y < 2 ^ 64) : leastF x y = leastF y x := by
  unfold leastF
  cases h1 : nanB x <;> cases h2 : nanB y <;> simp
  rw [canon_num h1, canon_num h2]
  simp only [cmpI_neg]
  by_cases a : placeI x < placeI y
  · rw [if_pos a, if_neg (by omega)]
  · rw [if_neg a]
    by_cases b : placeI y < placeI x
    · rw [if_pos b]
    · rw [if_neg b]
      exact (placeI_inj hx hy (by omega)).symm
theorem least_self (x : Nat) : canon (leastF x x) = canon x := by
  unfold leastF
  cases h : nanB x with
  | true => simp [canon_nan h, canon_qnan]
  | false => simp
theorem least_inf {x : Nat} (hx : x < 2 ^ 64) : canon (leastF x 9218868437227405312) = canon x := by
  unfold leastF
  have hi : nanB 9218868437227405312 = false := by decide +kernel
  rw [hi]
  cases h : nanB x with
  | true => simp [canon_nan h, canon_qnan]
  | false =>
    rw [canon_num h, canon_num hi, Bool.or_self, if_neg (by simp)]
    simp only [cmpI_neg]
    have hp : placeI 9218868437227405312 = 9218868437227405312 := by decide
    rw [hp]
    by_cases a : placeI x < 9218868437227405312
    · rw [if_pos a, canon_num h]
    · rw [if_neg a, canon_num hi]
      refine placeI_inj (by decide) hx ?_
      rw [hp]
      have hr := Fl.nanB_false.1 h
      unfold Fl.INF at hr
      unfold placeI at a ⊢
      split at a
      · omega
      · rename_i hs
        rw [if_neg hs]; omega
theorem law_holds (x y z : Nat) (hx : x < 2 ^ 64) (hy : y < 2 ^ 64) (hz : z < 2 ^ 64) : ∀ k, k < 24 → (holdsB k = true → canon (sidesF k x y z).1 = canon (sidesF k x y z).2) := by
  refine lt24 (p := fun k => holdsB k = true → canon (sidesF k x y z).1 = canon (sidesF k x y z).2) ?_
  refine ⟨fun _ => ?_, fun _ => ?_, fun _ => ?_, fun _ => ?_, fun _ => ?_, fun _ => ?_, fun _ => ?_, fun _ => ?_, fun _ => ?_, fun _ => ?_, fun _ => ?_,
    fun h => (by cases h), fun h => (by cases h), fun h => (by cases h), fun h => (by cases h), fun h => (by cases h), fun h => (by cases h), fun h => (by cases h), fun h => (by cases h), fun h => (by cases h), fun h => (by cases h), fun _ => ?_, fun _ => ?_, fun h => (by cases h)⟩
  · show canon (opt _) = canon (opt _); rw [Fl.add_comm]
  · show canon (opt _) = canon (opt _); rw [Fl.mul_comm]
  · show canon (canon _) = canon (canon _); rw [least_comm hx hy]
  · show canon (canon (greatF _ _)) = canon (canon (greatF _ _)); unfold greatF; rw [least_comm (Fl.neg_lt hx) (Fl.neg_lt hy)]
  · show canon (opt (Ieee.double.mul x Fl.ONE)) = canon x
    cases h : nanB x with
    | true => rw [Fl.mul_nan_l h, canon_opt, canon_nan h]; rfl
    | false => rw [Fl.mul_one hx h, canon_opt]; rfl
  · show canon (opt (Ieee.double.div x Fl.ONE)) = canon x
    cases h : nanB x with
    | true => rw [Fl.div_nan_l h, canon_opt, canon_nan h]; rfl
    | false => rw [Fl.div_one hx h, canon_opt]; rfl
  · show canon (opt (Ieee.double.sub x 0)) = canon x
    cases h : nanB x with
    | true => rw [Fl.sub_nan_l h, canon_opt, canon_nan h]; rfl
    | false =>
      rw [Fl.sub_eq_add (by decide), show negW 0 = Fl.SGN by decide, Fl.add_nz hx h, canon_opt]; rfl
  · show canon (opt (Ieee.double.add x Fl.SGN)) = canon x
    cases h : nanB x with
    | true => rw [Fl.add_nan_l h, canon_opt, canon_nan h]; rfl
    | false => rw [Fl.add_nz hx h, canon_opt]; rfl
  · show canon (canon (negW (canon (negW x)))) = canon x
    cases h : nanB x with
    | true =>
      rw [canon_nan (x := negW x) (by rw [Fl.nanB_neg hx]; exact h), Fl.canon_canon, canon_nan (x := negW qnan) (by decide +kernel), canon_nan h]
    | false => rw [canon_num (x := negW x) (by rw [Fl.nanB_neg hx]; exact h), Fl.neg_neg hx, Fl.canon_canon]
  · show canon (opt (Ieee.double.sub x y)) = canon (opt (Ieee.double.add x (canon (negW y))))
    rw [opt_add_canon, Fl.sub_eq_add hy]
  · show canon (canon (leastF x x)) = canon x
    rw [Fl.canon_canon, least_self]
  · show canon (canon (leastF x 9218868437227405312)) = canon x
    rw [Fl.canon_canon, least_inf hx]
  · show canon (opt (Ieee.double.mul x Fl.MONE)) = canon (canon (negW x))
    cases h : nanB x with
    | true => rw [Fl.mul_nan_l h, canon_opt, Fl.canon_canon, canon_nan (x := negW x) (by rw [Fl.nanB_neg hx]; exact h)]; rfl
    | false => rw [Fl.mul_mone hx h, canon_opt, Fl.canon_canon]; rfl
def notSame (k : Nat) : Bool := canon (sidesF k (canon (wits k).1) (canon (wits k).2.1) (canon (wits k).2.2)).1 != canon (sidesF k (canon (wits k).1) (canon (wits k).2.1) (canon (wits k).2.2)).2
theorem law_fails : ∀ k, k < 24 → (holdsB k = false → notSame k = true) := by
  have h : (List.range 24).all (fun k => holdsB k || notSame k) = true := by decide +kernel
  intro k hk hf
  have := List.all_eq_true.1 h k (List.mem_range.2 hk)
  simpa [hf] using this
/-- How many of the first k laws hold. -/
def cnt (k : Nat) : Nat := ((List.range k).filter holdsB).length
theorem cnt_succ (k : Nat) : cnt (k + 1) = cnt k + if holdsB k then 1 else 0 := by
  unfold cnt
  rw [List.range_succ, List.filter_append]
  cases h : holdsB k <;> simp [h]
theorem cnt_24 : cnt 24 = 13 := by decide
theorem cnt_le (k : Nat) : cnt k ≤ k := by unfold cnt; have := List.length_filter_le holdsB (List.range k); simpa using this
end Go.Proofs.Ytompdlhhfpjebaa
