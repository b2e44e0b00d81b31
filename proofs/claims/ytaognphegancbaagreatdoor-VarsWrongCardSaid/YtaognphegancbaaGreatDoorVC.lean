/- vars: values: SameValue, Right, and what makes values. -/
import Derived.Test.YtaognphegancbaaGreatDoorVB
import Derived.Below
namespace Go.Proofs.YtaognphegancbaaGreatDoor
set_option linter.unusedVariables false
set_option linter.unusedSimpArgs false
open Go.RowKit Go.Maps Go.WideMaps
open Fl (nanB canon qnan sg rg negW)
/-- Whether two values are the same. -/
def sameB (n1 : Bool) (t1 : ByteArray) (x1 : Nat) (n2 : Bool) (t2 : ByteArray) (x2 : Nat) : Bool := n1 == n2 && (t1.toList == t2.toList) && (canon x1 == canon x2)
theorem sameval_calls (n1 n2 : Bool) (t1 t2 : ByteArray) (x1 x2 : Nat) (w : World) :
    Calls Tryz.prog 13 #[.agg #[.bool n1, .string t1, .float .f64 x1], .agg #[.bool n2, .string t2, .float .f64 x2]] w fun e w' => e = .returned (.bool (sameB n1 t1 x1 n2 t2 x2)) ∧ Below w.heap.size w w' := by
  go_enter Tryz.func13, Tryz.ntmps13
  go_wp2_with (go_at_call 39; (with_reducible refine (same_calls _ _ _).mono ?_); rintro e w' ⟨rfl, rfl⟩)
  all_goals go_ret
  all_goals exact ⟨ret_bool (by unfold sameB; simp [*]), ((Below.refl _ _).alloc (Nat.le_refl _) _).alloc (by simp) _⟩
def rightB (n : Bool) (t : ByteArray) (x : Nat) : Bool := if n then (!nanB x || x == qnan) && (t.toList == []) else (x == 0) && decide (t.size ≤ 512)
theorem right_calls (n : Bool) (t : ByteArray) (x : Nat) (w : World) :
    Calls Tryz.prog 27 #[.agg #[.bool n, .string t, .float .f64 x]] w fun e w' => e = .returned (.bool (rightB n t x)) ∧ Below w.heap.size w w' := by
  go_enter Tryz.func27, Tryz.ntmps27
  go_wp2_with (go_at_call 48; (with_reducible refine (clean_calls _ _).mono ?_); rintro e w' ⟨rfl, rfl⟩)
  all_goals go_ret
  all_goals refine ⟨ret_bool ?_, (Below.refl _ _).alloc (Nat.le_refl _) _⟩
  all_goals first | (simp [rightB, *]; done) | (rw [Bool.eq_iff_iff]; simp [rightB, *] <;> omega)
theorem number_calls (x : Nat) (w : World) : Calls Tryz.prog 29 #[.float .f64 x] w fun e w' => e = .returned (.agg #[.bool true, .string ⟨#[]⟩, .float .f64 x]) ∧ Below w.heap.size w w' := by
  go_enter Tryz.func29, Tryz.ntmps29
  go_wp2
  exact bodyPost_ret (v := .agg #[.bool true, .string ⟨#[]⟩, .float .f64 x]) (by simp [results, Tryz.results29, go_sem]) rfl ⟨rfl, (Below.refl _ _).alloc (Nat.le_refl _) _⟩
theorem text_calls (s : ByteArray) (w : World) : Calls Tryz.prog 30 #[.string s] w fun e w' => e = .returned (.agg #[.bool false, .string s, .float .f64 0]) ∧ Below w.heap.size w w' := by
  go_enter Tryz.func30, Tryz.ntmps30
  go_wp2
  exact bodyPost_ret (v := .agg #[.bool false, .string s, .float .f64 0]) (by simp [results, Tryz.results30, go_sem]) rfl ⟨rfl, (Below.refl _ _).alloc (Nat.le_refl _) _⟩
theorem copysign_calls (w : World) : Calls Tryz.prog 28 #[.float .f64 0, .float .f64 13830554455654793216] w fun e w' => e = .returned (.float .f64 9223372036854775808) ∧ w = w' := by
  go_enter Tryz.func28, Tryz.ntmps28
  go_wp2
  go_ret
  exact ⟨ret_flt (by decide +kernel), rfl⟩
theorem samefloat_calls (x y : Nat) (hx : nanB x = false) (hy : nanB y = false) (w : World) : Calls Tryz.prog 34 #[.float .f64 x, .float .f64 y] w fun e w' => e = .returned (.bool (x == y)) ∧ w = w' := by
  have h : (FloatKind.f64.format.order x x != some .eq) = false := hx
  have h2 : (FloatKind.f64.format.order y y != some .eq) = false := hy
  clear hx hy
  go_enter Tryz.func34, Tryz.ntmps34
  go_wp2
  all_goals go_ret
  all_goals exact ⟨ret_bool (by rw [Bool.eq_iff_iff]; simp <;> omega), rfl⟩
/-- The value of a small act: a text, or a number by its bits. -/
theorem value_text (k : Int) (b : Nat) (t : ByteArray) (w : World) (ht : t.size ≤ 9223372036854775807) :
    Calls Tryz.prog 9 #[.agg #[.int .u8 k, .int .u64 (b : Int), .string t], .bool false] w fun e w' => e = .returned (.agg #[.bool false, .string (t.extract 0 (min t.size 512)), .float .f64 0]) ∧ Below w.heap.size w w' := by
  go_enter Tryz.func9, Tryz.ntmps9
  go_wp2
  all_goals refine bodyPost_ret (v := .agg #[.bool false, .string (t.extract 0 (min t.size 512)), .float .f64 0]) ?_ rfl ⟨rfl, ((Below.refl _ _).alloc (Nat.le_refl _) _).alloc (by simp) _⟩
  · rename_i h
    have e : min t.size 512 = 512 := by omega
    rw [e]
    simp [results, Tryz.results9, go_sem]
  · rename_i h
    have e : min t.size 512 = t.size := by omega
    rw [e]
    simp [results, Tryz.results9, go_sem]
theorem value_num (k : Int) (b : Nat) (t : ByteArray) (w : World) :
    Calls Tryz.prog 9 #[.agg #[.int .u8 k, .int .u64 (b : Int), .string t], .bool true] w fun e w' => e = .returned (.agg #[.bool true, .string ⟨#[]⟩, .float .f64 (canon b)]) ∧ Below w.heap.size w w' := by
  unfold canon
  cases hn : nanB b
  · have h : (FloatKind.f64.format.order b b != some .eq) = false := hn
    clear hn
    go_enter Tryz.func9, Tryz.ntmps9
    go_wp2
    exact bodyPost_ret (v := .agg #[.bool true, .string ⟨#[]⟩, .float .f64 b]) (by simp [results, Tryz.results9, go_sem]) rfl ⟨rfl, ((Below.refl _ _).alloc (Nat.le_refl _) _).alloc (by simp) _⟩
  · have h : (FloatKind.f64.format.order b b != some .eq) = true := hn
    clear hn
    go_enter Tryz.func9, Tryz.ntmps9
    go_wp2_with (go_at_call 36; (with_reducible refine (nan_calls _).mono ?_); rintro e w' ⟨rfl, rfl⟩)
    exact bodyPost_ret (v := .agg #[.bool true, .string ⟨#[]⟩, .float .f64 qnan]) (by simp [results, Tryz.results9, go_sem]) rfl ⟨rfl, ((Below.refl _ _).alloc (Nat.le_refl _) _).alloc (by simp) _⟩
end Go.Proofs.YtaognphegancbaaGreatDoor
