/- Walks of repartee/arith: Holds, Sides, Witness. -/
import Derived.Test.YtompdlhhfpjebaaL
import Derived.Test.YtompdlhhfpjebaaS1
import Derived.Test.YtompdlhhfpjebaaS2
import Derived.Test.YtompdlhhfpjebaaS3
import Derived.Test.YtompdlhhfpjebaaS4
namespace Go.Proofs.Ytompdlhhfpjebaa
set_option linter.unusedVariables false
open Go.RowKit
open Fl (nanB canon qnan sg rg negW)

theorem lawWorld_grown (w : World) : Grown w (lawWorld w) := by
  unfold lawWorld lawBase
  refine Grown.alloc (Grown.drew ?_) _ _
  go_grown
theorem lawWorld_row (w : World) (j : Nat) : (lawWorld w).cell? ⟨w.heap.size + 6, j, none⟩ = (lawCells w.heap.size)[j]? := by
  unfold lawWorld
  have h := lawBase_size w
  have h2 : w.heap.size + 6 = (lawBase w).drew.heap.size := h.symm
  rw [h2]
  exact World.cell?_alloc_new _ _ _ _
theorem lawWorld_var (w : World) (j : Nat) (hj : j < w.heap.size + 6) : (lawWorld w).cell? ⟨j, 0, none⟩ = (lawBase w).cell? ⟨j, 0, none⟩ := by
  unfold lawWorld
  have h := lawBase_size w
  have h2 : (lawBase w).drew.heap.size = w.heap.size + 6 := h
  exact World.cell?_alloc_past _ _ _ (by omega)
/-- The captured variables. -/
def LawVars (b : Nat) (w : World) : Prop :=
  w.cell? ⟨b, 0, none⟩ = some (.float .f64 9218868437227405312) ∧ w.cell? ⟨b + 1, 0, none⟩ = some (.func (.func 50) #[] #[]) ∧ w.cell? ⟨b + 2, 0, none⟩ = some (.func (.func 51) #[] #[]) ∧
  w.cell? ⟨b + 3, 0, none⟩ = some (.func (.func 52) #[] #[]) ∧ w.cell? ⟨b + 4, 0, none⟩ = some (.func (.func 53) #[] #[]) ∧ w.cell? ⟨b + 5, 0, none⟩ = some (.func (.func 54) #[] #[])
theorem lawWorld_vars (w : World) : LawVars w.heap.size (lawWorld w) := by
  unfold LawVars
  refine ⟨?_, ?_, ?_, ?_, ?_, ?_⟩ <;> rw [lawWorld_var _ _ (by omega)] <;> unfold lawBase <;> go_simp

theorem lt24 {p : Nat → Prop} (h : p 0 ∧ p 1 ∧ p 2 ∧ p 3 ∧ p 4 ∧ p 5 ∧ p 6 ∧ p 7 ∧ p 8 ∧ p 9 ∧ p 10 ∧ p 11 ∧ p 12 ∧ p 13 ∧ p 14 ∧ p 15 ∧ p 16 ∧ p 17 ∧ p 18 ∧ p 19 ∧ p 20 ∧ p 21 ∧ p 22 ∧ p 23) : ∀ k, k < 24 → p k := by
  obtain ⟨h0, h1, h2, h3, h4, h5, h6, h7, h8, h9, h10, h11, h12, h13, h14, h15, h16, h17, h18, h19, h20, h21, h22, h23⟩ := h
  intro k hk
  match k, hk with
  | 0, _ => exact h0
  | 1, _ => exact h1
  | 2, _ => exact h2
  | 3, _ => exact h3
  | 4, _ => exact h4
  | 5, _ => exact h5
  | 6, _ => exact h6
  | 7, _ => exact h7
  | 8, _ => exact h8
  | 9, _ => exact h9
  | 10, _ => exact h10
  | 11, _ => exact h11
  | 12, _ => exact h12
  | 13, _ => exact h13
  | 14, _ => exact h14
  | 15, _ => exact h15
  | 16, _ => exact h16
  | 17, _ => exact h17
  | 18, _ => exact h18
  | 19, _ => exact h19
  | 20, _ => exact h20
  | 21, _ => exact h21
  | 22, _ => exact h22
  | 23, _ => exact h23
  | n + 24, h => omega

/-- Whether law k + 1 holds, and its witnesses. -/
def holdsB (k : Nat) : Bool := k < 11 || k == 21 || k == 22
def wits (k : Nat) : Nat × Nat × Nat := match k with
  | 11 => (4607182418800017408, 4607182418800017408, 0)
  | 12 => (9218868437227405312, 0, 0)
  | 13 => (13830554455654793216, 0, 0)
  | 14 => (4607182418800017408, 13830554455654793216, 1)
  | 15 => (7598952565167317594, 7598952565167317594, 1614679632300144556)
  | 16 => (7598952565167317594, 7598952565167317594, 16822324602022093402)
  | 17 => (1, 4607182418800017408, 0)
  | 18 => (0, 0, 0)
  | 19 => (9223372036854775808, 0, 0)
  | 20 => (4607182418800017408, 0, 0)
  | 23 => (1, 1, 0)
  | _ => (0, 0, 0)
theorem cell_holds (b : Nat) : ∀ k, k < 24 → (lawCells b)[k * 5 + 1]? = some (.bool (holdsB k)) :=
  lt24 (p := fun k => (lawCells b)[k * 5 + 1]? = some (.bool (holdsB k))) (by refine ⟨?_, ?_, ?_, ?_, ?_, ?_, ?_, ?_, ?_, ?_, ?_, ?_, ?_, ?_, ?_, ?_, ?_, ?_, ?_, ?_, ?_, ?_, ?_, ?_⟩ <;> rfl)
theorem cell_wit (b : Nat) : ∀ k, k < 24 → (lawCells b)[k * 5 + 2]? = some (.float .f64 (wits k).1) ∧ (lawCells b)[k * 5 + 2 + 1]? = some (.float .f64 (wits k).2.1) ∧ (lawCells b)[k * 5 + 2 + 2]? = some (.float .f64 (wits k).2.2) :=
  lt24 (p := fun k => (lawCells b)[k * 5 + 2]? = some (.float .f64 (wits k).1) ∧ (lawCells b)[k * 5 + 2 + 1]? = some (.float .f64 (wits k).2.1) ∧ (lawCells b)[k * 5 + 2 + 2]? = some (.float .f64 (wits k).2.2)) (by refine ⟨?_, ?_, ?_, ?_, ?_, ?_, ?_, ?_, ?_, ?_, ?_, ?_, ?_, ?_, ?_, ?_, ?_, ?_, ?_, ?_, ?_, ?_, ?_, ?_⟩ <;> exact ⟨rfl, rfl, rfl⟩)

theorem holds_yes (k : Nat) (hk : k < 24) (w : World) : Calls Try.prog 15 #[.int .i64 (k + 1)] w fun e w' => e = .returned (.tuple #[.bool (holdsB k), .int .i64 0]) ∧ Grown w w' := by
  go_enter Try.func15, Try.ntmps15
  go_wp2_with fail
  refine (laws_calls _).mono ?_
  rintro e w1 ⟨rfl, hw1⟩
  have hg : Grown w w1 := by rw [hw1]; exact lawWorld_grown w
  have hc : w1.cell? ⟨w.heap.size + 6, k * 5 + 1, none⟩ = some (.bool (holdsB k)) := by rw [hw1, lawWorld_row]; exact cell_holds _ k hk
  clear hw1
  go_wp2_with fail
  go_ret2
  exact ⟨rfl, hg⟩
theorem holds_no (n : Int) (h : n < 1 ∨ 24 < n) (w : World) : Calls Try.prog 15 #[.int .i64 n] w fun e w' => e = .returned (.tuple #[.bool false, .int .i64 2]) ∧ Grown w w' := by
  rcases h with h | h
  · go_enter Try.func15, Try.ntmps15
    go_wp2_with fail
    go_ret2
    exact ⟨rfl, Grown.refl _⟩
  · have h1 : ¬ n < 1 := by omega
    go_enter Try.func15, Try.ntmps15
    go_wp2_with fail
    go_ret2
    exact ⟨rfl, Grown.refl _⟩
end Go.Proofs.Ytompdlhhfpjebaa
