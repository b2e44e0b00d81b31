/- The operators of the laws, and what memory that grows keeps. -/
import Derived.Test.YtompdlhhfpjebaaAc
namespace Go.Proofs.Ytompdlhhfpjebaa
set_option linter.unusedVariables false
open Go.RowKit
open Fl (nanB canon qnan sg rg negW)
theorem cell_grown {W W' : World} {a : Addr} {v : Value} (h : W.cell? a = some v) (hg : Grown W W') : W'.cell? a = some v := by
  obtain ⟨⟨_, _, hk⟩, _, _⟩ := hg
  have hlt := block_lt_of_cell h
  have hb := hk a.block hlt
  unfold World.cell? at h ⊢
  cases hA : W.heap[a.block]? with
  | none => rw [hA] at h; cases h
  | some o =>
    rw [hA] at h hb
    cases o with
    | cells c t fr =>
      cases hB : W'.heap[a.block]? with
      | none => rw [hB] at hb; cases hb
      | some o' =>
        rw [hB] at hb
        cases o' with
        | cells c' t' fr' =>
          obtain ⟨_, _, _, hj⟩ := hb
          cases hs : a.spot.isSome with
          | true => simp [hs] at h
          | false =>
            simp only [hs, Bool.false_eq_true, if_false] at h ⊢
            rw [hj _ (fun f => f.elim)]
            exact h
        | _ => simp at hb
    | _ => simp at h
theorem keep1 {w W W' : World} {a : Addr} {v : Value} (h : W.cell? a = some v ∧ Grown w W) (hg : Grown W W') : W'.cell? a = some v ∧ Grown w W' :=
  ⟨cell_grown h.1 hg, gtrans h.2 hg⟩
theorem keep2 {w W W' : World} {a b : Addr} {u v : Value} (h : W.cell? a = some u ∧ W.cell? b = some v ∧ Grown w W) (hg : Grown W W') : W'.cell? a = some u ∧ W'.cell? b = some v ∧ Grown w W' :=
  ⟨cell_grown h.1 hg, cell_grown h.2.1 hg, gtrans h.2.2 hg⟩
theorem keep3 {w W W' : World} {a b c : Addr} {t u v : Value} (h : W.cell? a = some t ∧ W.cell? b = some u ∧ W.cell? c = some v ∧ Grown w W) (hg : Grown W W') : W'.cell? a = some t ∧ W'.cell? b = some u ∧ W'.cell? c = some v ∧ Grown w W' :=
  ⟨cell_grown h.1 hg, cell_grown h.2.1 hg, cell_grown h.2.2.1 hg, gtrans h.2.2.2 hg⟩
theorem a_calls (x y : Nat) (w : World) : Calls Try.prog 50 #[.float .f64 x, .float .f64 y] w fun e w' => e = .returned (.float .f64 (opF 2 x y)) ∧ Grown w w' := by
  go_enter Try.func50, Try.ntmps50
  go_wp2_with (go_at_call 34; refine (do2 _ _ _).mono ?_; rintro e w1 ⟨rfl, hg1⟩)
  go_ret
  exact ⟨rfl, by assumption⟩
theorem s_calls (x y : Nat) (w : World) : Calls Try.prog 51 #[.float .f64 x, .float .f64 y] w fun e w' => e = .returned (.float .f64 (opF 3 x y)) ∧ Grown w w' := by
  go_enter Try.func51, Try.ntmps51
  go_wp2_with (go_at_call 34; refine (do3 _ _ _).mono ?_; rintro e w1 ⟨rfl, hg1⟩)
  go_ret
  exact ⟨rfl, by assumption⟩
theorem m_calls (x y : Nat) (w : World) : Calls Try.prog 52 #[.float .f64 x, .float .f64 y] w fun e w' => e = .returned (.float .f64 (opF 4 x y)) ∧ Grown w w' := by
  go_enter Try.func52, Try.ntmps52
  go_wp2_with (go_at_call 34; refine (do4 _ _ _).mono ?_; rintro e w1 ⟨rfl, hg1⟩)
  go_ret
  exact ⟨rfl, by assumption⟩
theorem d_calls (x y : Nat) (w : World) : Calls Try.prog 53 #[.float .f64 x, .float .f64 y] w fun e w' => e = .returned (.float .f64 (opF 5 x y)) ∧ Grown w w' := by
  go_enter Try.func53, Try.ntmps53
  go_wp2_with (go_at_call 34; refine (do5 _ _ _).mono ?_; rintro e w1 ⟨rfl, hg1⟩)
  go_ret
  exact ⟨rfl, by assumption⟩
theorem n_calls (x : Nat) (w : World) : Calls Try.prog 54 #[.float .f64 x] w fun e w' => e = .returned (.float .f64 (opF 1 x 0)) ∧ Grown w w' := by
  go_enter Try.func54, Try.ntmps54
  go_wp2_with (go_at_call 34; refine (do1 _ _ _).mono ?_; rintro e w1 ⟨rfl, hg1⟩)
  go_ret
  exact ⟨rfl, by assumption⟩
end Go.Proofs.Ytompdlhhfpjebaa
