/- Walks of repartee/arith: the table of operators, do, Name, Apply; the law's own do. -/
import Derived.Test.YtompdlhhfpjebaaW
import Derived.Deep.WholeRow
namespace Go.Proofs.Ytompdlhhfpjebaa
set_option linter.unusedVariables false
open Go.RowKit
open Fl (nanB canon qnan sg rg negW)

/-- A NaN of whatever bits, as the model draws it. -/
def drawn64 (x y : Nat) (w : World) : Nat := Question.cut (.nanBits .f64 x y) (w.tape w.drawn (.nanBits .f64 x y))
theorem drawn64_nan (x y : Nat) (w : World) : nanB (drawn64 x y w) = true := by
  rw [Fl.nanB_true]
  unfold drawn64 Question.cut Fl.rg Fl.SGN Fl.INF
  generalize w.tape w.drawn (.nanBits .f64 x y) = t
  simp only
  rcases (show t % 2 = 0 ∨ t % 2 = 1 by omega) with h | h <;> rw [h] <;> omega
theorem drawn64_lt (x y : Nat) (w : World) : drawn64 x y w < 2 ^ 64 := by
  unfold drawn64 Question.cut
  generalize w.tape w.drawn (.nanBits .f64 x y) = t
  simp only
  omega
theorem run_float_none (w : World) (op : BinOp) (t : TypeId) (x y : Nat) (ho : op = .add ∨ op = .sub ∨ op = .mul ∨ op = .quo) (h : floatBits op .f64 x y = none) :
    (binOp op t (.float .f64 x) (.float .f64 y)).run Try.prog w = .ok (.float .f64 (drawn64 x y w)) w.drew := by
  unfold floatBits at h
  rcases ho with rfl | rfl | rfl | rfl <;> simp only at h <;> simp [binOp, Op.floatArith, h] <;> rfl

def opt (o : Option Nat) : Nat := match o with | some r => canon r | none => qnan
def leastF (x y : Nat) : Nat := if nanB x || nanB y then qnan else if cmpI (placeI (canon x)) (placeI (canon y)) < 0 then x else y
def greatF (x y : Nat) : Nat := negW (leastF (negW x) (negW y))
/-- What comes of an operator. -/
def opF (op : Nat) (x y : Nat) : Nat :=
  match op with
  | 1 => canon (negW x)
  | 2 => opt (Ieee.double.add x y)
  | 3 => opt (Ieee.double.sub x y)
  | 4 => opt (Ieee.double.mul x y)
  | 5 => opt (Ieee.double.div x y)
  | 6 => canon (leastF x y)
  | 7 => canon (greatF x y)
  | _ => 0
/-- A call returns a number that is the same as 'r', and memory only grows. -/
def GivesF (r : Nat) (w : World) (e : Ending) (w' : World) : Prop := ∃ b, e = .returned (.float .f64 b) ∧ canon b = r ∧ Grown w w'

theorem tneg_calls (x y : Nat) (w : World) : Calls Try.prog 43 #[.float .f64 x, .float .f64 y] w (GivesF (canon (negW x)) w) := by
  go_enter Try.func43, Try.ntmps43
  go_wp2
  go_ret
  exact ⟨_, rfl, rfl, Grown.refl _⟩
theorem tadd_calls (x y : Nat) (w : World) : Calls Try.prog 44 #[.float .f64 x, .float .f64 y] w (GivesF (opt (Ieee.double.add x y)) w) := by
  cases h : Ieee.double.add x y with
  | some r =>
    have hr := fun w => run_float_arith (P := Try.prog) w .add 24 .f64 x y r h
    clear h
    go_enter Try.func44, Try.ntmps44
    go_wp2
    go_ret
    exact ⟨_, rfl, rfl, Grown.refl _⟩
  | none =>
    have hr := fun w => run_float_none w .add 24 x y (by simp) h
    clear h
    go_enter Try.func44, Try.ntmps44
    go_wp2
    go_ret
    exact ⟨_, rfl, by unfold opt canon; rw [drawn64_nan]; rfl, (Grown.refl _).drew⟩
theorem tsub_calls (x y : Nat) (w : World) : Calls Try.prog 45 #[.float .f64 x, .float .f64 y] w (GivesF (opt (Ieee.double.sub x y)) w) := by
  cases h : Ieee.double.sub x y with
  | some r =>
    have hr := fun w => run_float_arith (P := Try.prog) w .sub 24 .f64 x y r h
    clear h
    go_enter Try.func45, Try.ntmps45
    go_wp2
    go_ret
    exact ⟨_, rfl, rfl, Grown.refl _⟩
  | none =>
    have hr := fun w => run_float_none w .sub 24 x y (by simp) h
    clear h
    go_enter Try.func45, Try.ntmps45
    go_wp2
    go_ret
    exact ⟨_, rfl, by unfold opt canon; rw [drawn64_nan]; rfl, (Grown.refl _).drew⟩
theorem tmul_calls (x y : Nat) (w : World) : Calls Try.prog 46 #[.float .f64 x, .float .f64 y] w (GivesF (opt (Ieee.double.mul x y)) w) := by
  cases h : Ieee.double.mul x y with
  | some r =>
    have hr := fun w => run_float_arith (P := Try.prog) w .mul 24 .f64 x y r h
    clear h
    go_enter Try.func46, Try.ntmps46
    go_wp2
    go_ret
    exact ⟨_, rfl, rfl, Grown.refl _⟩
  | none =>
    have hr := fun w => run_float_none w .mul 24 x y (by simp) h
    clear h
    go_enter Try.func46, Try.ntmps46
    go_wp2
    go_ret
    exact ⟨_, rfl, by unfold opt canon; rw [drawn64_nan]; rfl, (Grown.refl _).drew⟩
theorem tdiv_calls (x y : Nat) (w : World) : Calls Try.prog 47 #[.float .f64 x, .float .f64 y] w (GivesF (opt (Ieee.double.div x y)) w) := by
  cases h : Ieee.double.div x y with
  | some r =>
    have hr := fun w => run_float_arith (P := Try.prog) w .quo 24 .f64 x y r h
    clear h
    go_enter Try.func47, Try.ntmps47
    go_wp2
    go_ret
    exact ⟨_, rfl, rfl, Grown.refl _⟩
  | none =>
    have hr := fun w => run_float_none w .quo 24 x y (by simp) h
    clear h
    go_enter Try.func47, Try.ntmps47
    go_wp2
    go_ret
    exact ⟨_, rfl, by unfold opt canon; rw [drawn64_nan]; rfl, (Grown.refl _).drew⟩

theorem least_calls (x y : Nat) (hx : x < 2 ^ 64) (hy : y < 2 ^ 64) (w : World) : Calls Try.prog 48 #[.float .f64 x, .float .f64 y] w fun e w' => e = .returned (.float .f64 (leastF x y)) ∧ w = w' := by
  unfold leastF
  cases hn : nanB x
  · have h : (FloatKind.f64.format.order x x != some .eq) = false := hn
    cases hm : nanB y
    · have h2 : (FloatKind.f64.format.order y y != some .eq) = false := hm
      have C := Lib.hid (fun w => compare_calls x y hx hy w)
      clear hn hm hx hy
      by_cases hc : cmpI (placeI (canon x)) (placeI (canon y)) < 0
      · rw [if_neg (by simp), if_pos hc]
        go_enter Try.func48, Try.ntmps48
        go_wp2_with (go_at_call 27; refine (C.out _).mono ?_; rintro e w' ⟨rfl, rfl⟩)
        go_ret
        exact ⟨rfl, rfl⟩
      · rw [if_neg (by simp), if_neg hc]
        go_enter Try.func48, Try.ntmps48
        go_wp2_with (go_at_call 27; refine (C.out _).mono ?_; rintro e w' ⟨rfl, rfl⟩)
        go_ret
        exact ⟨rfl, rfl⟩
    · have h2 : (FloatKind.f64.format.order y y != some .eq) = true := hm
      clear hn hm hx hy
      go_enter Try.func48, Try.ntmps48
      go_wp2_with (go_at_call 39; refine (nan_calls _).mono ?_; rintro e w' ⟨rfl, rfl⟩)
      go_ret
      exact ⟨rfl, rfl⟩
  · have h : (FloatKind.f64.format.order x x != some .eq) = true := hn
    clear hn hx hy
    go_enter Try.func48, Try.ntmps48
    go_wp2_with (go_at_call 39; refine (nan_calls _).mono ?_; rintro e w' ⟨rfl, rfl⟩)
    go_ret
    exact ⟨rfl, rfl⟩
theorem great_calls (x y : Nat) (hx : x < 2 ^ 64) (hy : y < 2 ^ 64) (w : World) : Calls Try.prog 49 #[.float .f64 x, .float .f64 y] w fun e w' => e = .returned (.float .f64 (greatF x y)) ∧ w = w' := by
  have C := Lib.hid (fun w => least_calls (negW x) (negW y) (Fl.neg_lt hx) (Fl.neg_lt hy) w)
  clear hx hy
  unfold greatF
  go_enter Try.func49, Try.ntmps49
  go_wp2_with (go_at_call 48; refine (C.out _).mono ?_; rintro e w' ⟨rfl, rfl⟩)
  go_ret
  exact ⟨rfl, rfl⟩

def tableC : Array Value := #[.string { data := #[] }, .nilFunc, .string { data := #[45] },
              .func (.func 43) #[] #[], .string { data := #[43] }, .func (.func 44) #[] #[],
              .string { data := #[45] }, .func (.func 45) #[] #[], .string { data := #[42] },
              .func (.func 46) #[] #[], .string { data := #[47] }, .func (.func 47) #[] #[],
              .string { data := #[109, 105, 110] }, .func (.func 48) #[] #[],
              .string { data := #[109, 97, 120] }, .func (.func 49) #[] #[]]
theorem table_calls (w : World) : Calls Try.prog 35 #[] w fun e w' => e = .returned (.agg tableC) ∧ Grown w w' := by
  go_enter Try.func35, Try.ntmps35
  go_wp2
  go_returns
  exact ⟨rfl, by go_grown⟩

end Go.Proofs.Ytompdlhhfpjebaa
