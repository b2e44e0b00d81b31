/- Walks of the small functions of math and repartee/floats. -/
import Derived.Test.YtompdlhhfpjebaaRows
import Derived.Test.YtompdlhhfpjebaaFlb
import Derived.WalkKit
import Derived.ProofKit
import Derived.OpenShut
import Derived.WalkLawsBesides
import Derived.Handy
import Derived.Laws.FloatArith
import Derived.Laws.EntriesVeiled
import Derived.Lib.Hide
namespace Go.Proofs.Ytompdlhhfpjebaa
set_option linter.unusedVariables false
open Go.RowKit
open Fl (nanB canon qnan sg rg negW)

theorem gtrans {a b c : World} (h1 : Grown a b) (h2 : Grown b c) : Grown a c :=
  ⟨World.keptBut_trans h1.1 (World.keptBut_mono (fun _ f => f.elim) h2.1), fun x => (h2.2.1 x).trans (h1.2.1 x), Nat.le_trans h1.2.2 h2.2.2⟩

@[go_sem] theorem run_bits (b : Nat) (w : World) : (callFunc 37 #[.float .f64 b]).run Try.prog w = .ok (.value (.int .u64 (b : Int))) w := by
  rw [run_callFunc_extern Try.func37 (by kernel_rfl) (by kernel_rfl) (by kernel_rfl) (e := Extern.MathFloatBits.float64bits) (by kernel_rfl)]
  rfl
@[go_sem] theorem run_from (b : Int) (w : World) : (callFunc 11 #[.int .u64 b]).run Try.prog w = .ok (.value (.float .f64 b.toNat)) w := by
  rw [run_callFunc_extern Try.func11 (by kernel_rfl) (by kernel_rfl) (by kernel_rfl) (e := Extern.MathFloatBits.float64frombits) (by kernel_rfl)]
  rfl
@[go_sem] theorem run_neg (b : Nat) (w : World) : (Op.unary .neg (.float .f64 b)).run Try.prog w = .ok (.float .f64 (negW b)) w := rfl
@[go_sem] theorem run_store_float (a : Addr) (m : Mode) (b : Nat) (w : World) : (store a (.float .f64 b) m).run Try.prog w = stored Try.prog w a (.float .f64 b) m := run_store Try.prog w a _ m rfl
theorem ret_bool {a b : Bool} (h : a = b) : Ending.returned (.bool a) = .returned (.bool b) := by rw [h]
theorem ret_int {k : IntKind} {a b : Int} (h : a = b) : Ending.returned (.int k a) = .returned (.int k b) := by rw [h]
theorem ret_flt {a b : Nat} (h : a = b) : Ending.returned (.float .f64 a) = .returned (.float .f64 b) := by rw [h]
theorem cast_beq (a b : Nat) : ((a : Int) == (b : Int)) = (a == b) := by
  rw [Bool.eq_iff_iff, beq_iff_eq, beq_iff_eq]; omega

theorem nan_calls (w : World) : Calls Try.prog 39 #[] w fun e w' => e = .returned (.float .f64 qnan) ∧ w = w' := by
  go_enter Try.func39, Try.ntmps39
  go_wp2
  go_ret
  exact ⟨rfl, rfl⟩
theorem mnan_calls (w : World) : Calls Try.prog 32 #[] w fun e w' => e = .returned (.float .f64 qnan) ∧ w = w' := by
  go_enter Try.func32, Try.ntmps32
  go_wp2
  go_ret
  exact ⟨rfl, rfl⟩
theorem canon_calls (x : Nat) (w : World) : Calls Try.prog 21 #[.float .f64 x] w fun e w' => e = .returned (.float .f64 (canon x)) ∧ w = w' := by
  unfold canon
  cases hn : nanB x
  · have h : (FloatKind.f64.format.order x x != some .eq) = false := hn
    clear hn
    go_enter Try.func21, Try.ntmps21
    go_wp2
    go_ret
    exact ⟨rfl, rfl⟩
  · have h : (FloatKind.f64.format.order x x != some .eq) = true := hn
    clear hn
    go_enter Try.func21, Try.ntmps21
    go_wp2
    go_ret
    exact ⟨rfl, rfl⟩
theorem same_calls (x y : Nat) (w : World) : Calls Try.prog 17 #[.float .f64 x, .float .f64 y] w fun e w' => e = .returned (.bool (canon x == canon y)) ∧ w = w' := by
  go_enter Try.func17, Try.ntmps17
  go_wp2_with (go_at_call 21; refine (canon_calls _ _).mono ?_; rintro e w' ⟨rfl, rfl⟩)
  go_ret
  exact ⟨ret_bool (cast_beq _ _), rfl⟩
theorem clean_calls (x : Nat) (w : World) : Calls Try.prog 20 #[.float .f64 x] w fun e w' => e = .returned (.bool (!nanB x || x == qnan)) ∧ w = w' := by
  cases hn : nanB x
  · have h : (FloatKind.f64.format.order x x == some .eq) = true := by unfold nanB at hn; simpa using hn
    clear hn
    go_enter Try.func20, Try.ntmps20
    go_wp2
    go_ret
    exact ⟨rfl, rfl⟩
  · have h : (FloatKind.f64.format.order x x == some .eq) = false := by unfold nanB at hn; simpa using hn
    clear hn
    go_enter Try.func20, Try.ntmps20
    go_wp2
    go_ret
    exact ⟨ret_bool (cast_beq x 9221120237041090561), rfl⟩
def placeI (x : Nat) : Int := if sg x then -1 - (rg x : Int) else rg x
theorem zero_calls (w : World) : Calls Try.prog 38 #[] w fun e w' => e = .returned (.float .f64 9223372036854775808) ∧ w = w' := by
  go_enter Try.func38, Try.ntmps38
  go_wp2
  go_ret
  exact ⟨ret_flt (by decide), rfl⟩
theorem place_calls (x : Nat) (hx : x < 2 ^ 64) (w : World) : Calls Try.prog 41 #[.float .f64 x] w fun e w' => e = .returned (.int .i64 (placeI (canon x))) ∧ w = w' := by
  have hc := Fl.canon_lt hx
  have hr : (rg (canon x) : Int) ≤ 9223372036854775807 := by have := Fl.rg_lt (canon x); unfold Fl.SGN at this; omega
  cases hs : sg (canon x)
  · have H : Hid (placeI (canon x) = (canon x : Int)) := by
      show _ = _
      unfold placeI; rw [hs]
      have := Fl.wd_sg_rg hc
      rw [hs] at this
      simp [Fl.wd] at this
      simp [this]
    have hb : (bits .and .u64 (canon x : Int) 9223372036854775808 != 0) = false := by rw [Fl.bits_and hc, hs]; rfl
    have hr2 : (canon x : Int) ≤ 9223372036854775807 := by
      have e : Hid _ := H
      have e2 := e.out
      unfold placeI at e2; rw [hs] at e2; simp at e2
      omega
    clear hs hr hx hc
    go_enter Try.func41, Try.ntmps41
    go_wp2_with (go_at_call 21; refine (canon_calls _ _).mono ?_; rintro e w' ⟨rfl, rfl⟩)
    go_ret
    exact ⟨ret_int H.out.symm, rfl⟩
  · have H : Hid (placeI (canon x) = -1 - (rg (canon x) : Int)) := by
      show _ = _
      unfold placeI; rw [hs]; rfl
    have hb : (bits .and .u64 (canon x : Int) 9223372036854775808 != 0) = true := by rw [Fl.bits_and hc, hs]; rfl
    have hb2 := Fl.bits_andNot hc
    clear hs hx hc
    go_enter Try.func41, Try.ntmps41
    go_wp2_with (go_at_call 21; refine (canon_calls _ _).mono ?_; rintro e w' ⟨rfl, rfl⟩)
    go_ret
    exact ⟨ret_int H.out.symm, rfl⟩

theorem cisnan_calls (x : Int) (w : World) : Calls Try.prog 79 #[.int .i64 x] w fun e w' => e = .returned (.bool false) ∧ w = w' := by
  go_enter Try.func79, Try.ntmps79
  go_wp2
  go_ret
  exact ⟨ret_bool (by simp), rfl⟩
def cmpI (x y : Int) : Int := if x < y then -1 else if x = y then 0 else 1
theorem ccmp_calls (x y : Int) (w : World) : Calls Try.prog 40 #[.int .i64 x, .int .i64 y] w fun e w' => e = .returned (.int .i64 (cmpI x y)) ∧ w = w' := by
  have H : Hid ((x < y → cmpI x y = -1) ∧ (x = y → cmpI x y = 0) ∧ (y < x → cmpI x y = 1)) := by
    show _ ∧ _
    unfold cmpI
    refine ⟨fun h => ?_, fun h => ?_, fun h => ?_⟩
    · rw [if_pos h]
    · rw [if_neg (by omega), if_pos h]
    · rw [if_neg (by omega), if_neg (by omega)]
  rcases Int.lt_trichotomy x y with h | h | h
  · go_enter Try.func40, Try.ntmps40
    go_wp2_with (go_at_call 79; refine (cisnan_calls _ _).mono ?_; rintro e w' ⟨rfl, rfl⟩)
    go_ret
    exact ⟨ret_int (H.out.1 h).symm, rfl⟩
  · subst h
    go_enter Try.func40, Try.ntmps40
    go_wp2_with (go_at_call 79; refine (cisnan_calls _ _).mono ?_; rintro e w' ⟨rfl, rfl⟩)
    go_ret
    exact ⟨ret_int (H.out.2.1 trivial).symm, rfl⟩
  · have h2 : ¬ x < y := by omega
    go_enter Try.func40, Try.ntmps40
    go_wp2_with (go_at_call 79; refine (cisnan_calls _ _).mono ?_; rintro e w' ⟨rfl, rfl⟩)
    go_ret
    exact ⟨ret_int (H.out.2.2 h).symm, rfl⟩
theorem compare_calls (x y : Nat) (hx : x < 2 ^ 64) (hy : y < 2 ^ 64) (w : World) : Calls Try.prog 27 #[.float .f64 x, .float .f64 y] w fun e w' => e = .returned (.int .i64 (cmpI (placeI (canon x)) (placeI (canon y)))) ∧ w = w' := by
  have px := fun w => place_calls x hx w
  have py := fun w => place_calls y hy w
  have PX := Lib.hid px
  have PY := Lib.hid py
  clear px py
  go_enter Try.func27, Try.ntmps27
  go_wp2_with fail
  refine (PX.out _).mono ?_; rintro e w' ⟨rfl, rfl⟩
  go_wp2_with fail
  refine (PY.out _).mono ?_; rintro e w' ⟨rfl, rfl⟩
  go_wp2_with (go_at_call 40; refine (ccmp_calls _ _ _).mono ?_; rintro e w' ⟨rfl, rfl⟩)
  go_ret
  exact ⟨rfl, rfl⟩
def negB (x : Nat) : Bool := !nanB x && sg x
theorem negative_calls (x : Nat) (hx : x < 2 ^ 64) (w : World) : Calls Try.prog 22 #[.float .f64 x] w fun e w' => e = .returned (.bool (negB x)) ∧ w = w' := by
  unfold negB
  cases hn : nanB x
  · have h : (FloatKind.f64.format.order x x == some .eq) = true := by unfold nanB at hn; simpa using hn
    cases hs : sg x
    · have hb : (bits .and .u64 (x : Int) 9223372036854775808 != 0) = false := by rw [Fl.bits_and hx, hs]; rfl
      clear hn hx hs
      go_enter Try.func22, Try.ntmps22
      go_wp2
      go_ret
      exact ⟨rfl, rfl⟩
    · have hb : (bits .and .u64 (x : Int) 9223372036854775808 != 0) = true := by rw [Fl.bits_and hx, hs]; rfl
      clear hn hx hs
      go_enter Try.func22, Try.ntmps22
      go_wp2
      go_ret
      exact ⟨rfl, rfl⟩
  · have h : (FloatKind.f64.format.order x x == some .eq) = false := by unfold nanB at hn; simpa using hn
    clear hn hx
    go_enter Try.func22, Try.ntmps22
    go_wp2
    go_ret
    exact ⟨rfl, rfl⟩
def kindI (r : Nat) : Int := if Fl.INF < r then 1 else if r = Fl.INF then 2 else if r = 0 then 3 else if r < Fl.B52 then 4 else 5
theorem kind_calls (x : Nat) (hx : x < 2 ^ 64) (w : World) : Calls Try.prog 23 #[.float .f64 x] w fun e w' => e = .returned (.int .u8 (kindI (rg x))) ∧ w = w' := by
  have hb2 := Fl.bits_andNot hx
  clear hx
  generalize rg x = r at hb2 ⊢
  have H : Hid ((9218868437227405312 < r → kindI r = 1) ∧ (r = 9218868437227405312 → kindI r = 2) ∧ (r = 0 → kindI r = 3) ∧ (0 < r → r < 4503599627370496 → kindI r = 4) ∧ (4503599627370496 ≤ r → r < 9218868437227405312 → kindI r = 5)) := by
    show _ ∧ _
    unfold kindI Fl.INF Fl.B52
    refine ⟨?_, ?_, ?_, ?_, ?_⟩ <;> (repeat' split) <;> intros <;> omega
  by_cases h1 : 9218868437227405312 < r
  · have H1 := Lib.hid (H.out.1 h1)
    clear H
    have h1' : (9218868437227405312 : Int) < (r : Int) := by omega
    clear h1
    go_enter Try.func23, Try.ntmps23
    go_wp2
    go_ret
    exact ⟨ret_int H1.out.symm, rfl⟩
  · have h1' : ¬ (9218868437227405312 : Int) < (r : Int) := by omega
    by_cases h2 : r = 9218868437227405312
    · have H1 := Lib.hid (H.out.2.1 h2)
      clear H
      have h2' : ((r : Int) == 9218868437227405312) = true := by rw [beq_iff_eq]; omega
      clear h1 h2
      go_enter Try.func23, Try.ntmps23
      go_wp2
      go_ret
      exact ⟨ret_int H1.out.symm, rfl⟩
    · have h2' : ((r : Int) == 9218868437227405312) = false := by rw [beq_eq_false_iff_ne]; omega
      by_cases h3 : r = 0
      · have H1 := Lib.hid (H.out.2.2.1 h3)
        clear H
        have h3' : ((r : Int) == 0) = true := by rw [beq_iff_eq]; omega
        clear h1 h2 h3
        go_enter Try.func23, Try.ntmps23
        go_wp2
        go_ret
        exact ⟨ret_int H1.out.symm, rfl⟩
      · have h3' : ((r : Int) == 0) = false := by rw [beq_eq_false_iff_ne]; omega
        by_cases h4 : r < 4503599627370496
        · have H1 := Lib.hid (H.out.2.2.2.1 (by omega) h4)
          clear H
          have h4' : (r : Int) < 4503599627370496 := by omega
          clear h1 h2 h3 h4
          go_enter Try.func23, Try.ntmps23
          go_wp2
          go_ret
          exact ⟨ret_int H1.out.symm, rfl⟩
        · have H1 := Lib.hid (H.out.2.2.2.2 (by omega) (by omega))
          clear H
          have h4' : ¬ (r : Int) < 4503599627370496 := by omega
          clear h1 h2 h3 h4
          go_enter Try.func23, Try.ntmps23
          go_wp2
          go_ret
          exact ⟨ret_int H1.out.symm, rfl⟩
end Go.Proofs.Ytompdlhhfpjebaa
