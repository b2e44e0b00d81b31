/- Slices of floats that read as lists; the contracts of Sum and Least. -/
import Derived.Test.YtompdlhhfpjebaaOrder
import Derived.Below
import Derived.Laws.OwnMore
import Derived.Deep.AppendLies
import Derived.Deep.Draws
import Derived.Maps.AppendAt
import Derived.RegionTactic
import Derived.OwnWalk
namespace Go.Proofs.Ytompdlhhfpjebaa
set_option linter.unusedVariables false
open Go.RowKit
open Fl (nanB canon qnan sg rg negW)

/-- A slice value '.slice A n c' holds the floats xs. -/
def RF (w : World) (A : Option Addr) (n : Nat) (xs : List Nat) : Prop :=
  n = xs.length ∧ (0 < n → ∃ ad, A = some ad ∧ ∀ j u, xs[j]? = some u → w.cell? (ad.add j) = some (.float .f64 u))
theorem RF.grown {w w' : World} {A : Option Addr} {n : Nat} {xs : List Nat} (h : RF w A n xs) (hg : Grown w w') : RF w' A n xs :=
  ⟨h.1, fun hn => by
    obtain ⟨ad, e, hc⟩ := h.2 hn
    exact ⟨ad, e, fun j u hu => cell_grown (hc j u hu) hg⟩⟩
theorem RF.at_ {w : World} {A : Option Addr} {n k : Nat} {xs : List Nat} (h : RF w A n xs) (hk : k < n) : ∃ ad, A = some ad ∧ w.cell? (ad.add k) = some (.float .f64 (xs[k]?.getD 0)) := by
  obtain ⟨ad, e, hc⟩ := h.2 (by omega)
  have hl : k < xs.length := by have := h.1; omega
  exact ⟨ad, e, hc k _ (by simp [List.getElem?_eq_getElem hl])⟩
/-- The sum of a list, from -0. -/
def sumF (xs : List Nat) : Nat := xs.foldl (opF 2) 9223372036854775808
theorem sumF_snoc (xs : List Nat) (x : Nat) : sumF (xs ++ [x]) = opF 2 (sumF xs) x := by unfold sumF; rw [List.foldl_append]; rfl
theorem take_snoc (xs : List Nat) (k : Nat) (h : k < xs.length) : xs.take (k + 1) = xs.take k ++ [xs[k]?.getD 0] := by
  rw [List.take_succ_eq_append_getElem h]; simp [List.getElem?_eq_getElem h]
theorem sumF_take (xs : List Nat) (k : Nat) (h : k < xs.length) : sumF (xs.take (k + 1)) = opF 2 (sumF (xs.take k)) (xs[k]?.getD 0) := by
  rw [take_snoc xs k h, sumF_snoc]
set_option maxHeartbeats 1000000 in
theorem sum_calls (A : Option Addr) (n c : Nat) (xs : List Nat) (w : World) (hr : RF w A n xs) (hn : n ≤ 9223372036854775807) :
    Calls Try.prog 18 #[.slice A n c] w fun e w' => e = .returned (.float .f64 (sumF xs)) ∧ Grown w w' := by
  have HR := Lib.hid hr
  clear hr
  go_enter Try.func18, Try.ntmps18
  go_wp2_with (go_at_call 38; refine (zero_calls _).mono ?_; rintro e w' ⟨rfl, rfl⟩)
  go_loopw [3, 9] (fun s i wr => ∃ k : Nat, k ≤ n ∧ i = .int .i64 k ∧ s = .float .f64 (sumF (xs.take k)) ∧ Grown w wr) (fun _ i _ => n - (intOf i).toNat)
  case atStart => exact ⟨0, by omega, rfl, rfl, Grown.refl _⟩
  case round =>
    obtain ⟨k, hk, rfl, rfl, hgr⟩ := hrel
    by_cases hlt : k < n
    · have HT := Lib.hid (sumF_take xs k (by have := HR.out.1; omega))
      obtain ⟨ad, rfl, hc⟩ := (HR.out.grown hgr).at_ hlt
      go_wp2_with (go_at_call 34; refine (do2 _ _ _).mono ?_; rintro e w1 ⟨rfl, hg1⟩)
      go_roundw
      case rel => exact ⟨k + 1, by omega, by go_num, by rw [HT.out], gtrans hgr hg1⟩
      case measure => simp [intOf]; omega
    · have HE := Lib.hid (show sumF (xs.take k) = sumF xs by rw [List.take_of_length_le (by have := HR.out.1; omega)])
      go_wp2_with fail
      go_ret
      exact ⟨ret_flt HE.out, hgr⟩
/-- The least of a list that is not empty. -/
def leastL (xs : List Nat) : Nat := xs.foldl (opF 6) (canon (xs[0]?.getD 0))
def leastAt (xs : List Nat) (k : Nat) : Nat := (xs.take k).foldl (opF 6) (canon (xs[0]?.getD 0))
theorem leastAt_succ (xs : List Nat) (k : Nat) (h : k < xs.length) : leastAt xs (k + 1) = opF 6 (leastAt xs k) (xs[k]?.getD 0) := by
  unfold leastAt; rw [take_snoc xs k h, List.foldl_append]; rfl
theorem leastAt_lt (xs : List Nat) (hx : ∀ x ∈ xs, x < 2 ^ 64) (h0 : 0 < xs.length) : ∀ k, k ≤ xs.length → leastAt xs k < 2 ^ 64 := by
  intro k
  induction k with
  | zero =>
    intro _
    unfold leastAt
    simp only [List.take_zero, List.foldl_nil]
    exact Fl.canon_lt (hx _ (by simp [List.getElem?_eq_getElem h0]))
  | succ k ih =>
    intro hk
    rw [leastAt_succ xs k (by omega)]
    exact opF_lt 6 (ih (by omega)) (hx _ (by simp [List.getElem?_eq_getElem (show k < xs.length by omega)]))
theorem least_nil (A : Option Addr) (c : Nat) (w : World) : Calls Try.prog 19 #[.slice A 0 c] w fun e w' => e = .returned (.tuple #[.float .f64 0, .int .i64 6]) ∧ Grown w w' := by
  go_enter Try.func19, Try.ntmps19
  go_wp2_with fail
  go_ret2
  exact ⟨rfl, Grown.refl _⟩
set_option maxHeartbeats 1000000 in
theorem least_list_calls (A : Option Addr) (n c : Nat) (xs : List Nat) (w : World) (hr : RF w A n xs) (hn : n ≤ 9223372036854775807) (h0 : 0 < n) (hx : ∀ x ∈ xs, x < 2 ^ 64) :
    Calls Try.prog 19 #[.slice A n c] w fun e w' => e = .returned (.tuple #[.float .f64 (leastL xs), .int .i64 0]) ∧ Grown w w' := by
  have HR := Lib.hid hr
  have hz : ((n : Int) == 0) = false := by rw [beq_eq_false_iff_ne]; omega
  have h0' : (0 : Int) < (n : Int) := by omega
  obtain ⟨ad, rfl, hc0⟩ := hr.at_ h0
  have hc1 : w.cell? ad = some (.float .f64 (xs[0]?.getD 0)) := hc0
  have HL := Lib.hid (leastAt_lt xs hx (by have := hr.1; omega))
  have HX := Lib.hid hx
  clear hr hx
  go_enter Try.func19, Try.ntmps19
  go_wp2_with (go_at_call 21; refine (canon_calls _ _).mono ?_; rintro e w' ⟨rfl, rfl⟩)
  go_loopw [4, 16] (fun s i wr => ∃ k : Nat, k ≤ n ∧ i = .int .i64 k ∧ s = .float .f64 (leastAt xs k) ∧ Grown w wr) (fun _ i _ => n - (intOf i).toNat)
  case atStart => exact ⟨0, by omega, rfl, rfl, Grown.refl _⟩
  case round =>
    obtain ⟨k, hk, rfl, rfl, hgr⟩ := hrel
    by_cases hlt : k < n
    · have hlen : k < xs.length := by have := HR.out.1; omega
      have HT := Lib.hid (leastAt_succ xs k hlen)
      have HD := Lib.hid (fun w => do6 (leastAt xs k) (xs[k]?.getD 0) (HL.out k (by omega)) (HX.out _ (by simp [List.getElem?_eq_getElem hlen])) w)
      have hc : wr.cell? (ad.add k) = some (.float .f64 (xs[k]?.getD 0)) := by
        obtain ⟨ad', e, hc⟩ := (HR.out.grown hgr).at_ hlt
        cases e; exact hc
      clear hlen
      go_wp2_with (go_at_call 34; refine (HD.out _).mono ?_; rintro e w1 ⟨rfl, hg1⟩)
      go_roundw
      case rel => exact ⟨k + 1, by omega, by go_num, by rw [HT.out], gtrans hgr hg1⟩
      case measure => simp [intOf]; omega
    · have HE := Lib.hid (show leastAt xs k = leastL xs by unfold leastAt leastL; rw [List.take_of_length_le (by have := HR.out.1; omega)])
      go_wp2_with fail
      go_ret2
      exact ⟨by rw [HE.out]; rfl, hgr⟩
end Go.Proofs.Ytompdlhhfpjebaa
