/- Walks of the small functions of math and repartee/floats: those that every seat has. -/
import Derived.Test.YtaognphegancbaaGreatDoorProg
import Derived.BigCall
import Derived.Outline
import Derived.Test.YtaognphegancbaaGreatDoorFlb
import Derived.WalkKit
import Derived.ProofKit
import Derived.OpenShut
import Derived.WalkLawsBesides
import Derived.Handy
import Derived.Laws.FloatArith
import Derived.Laws.EntriesVeiled
import Derived.Lib.Hide
namespace Go.Proofs.YtaognphegancbaaGreatDoor
set_option linter.unusedVariables false
open Go.RowKit
open Fl (nanB canon qnan sg rg negW)

theorem gtrans {a b c : World} (h1 : Grown a b) (h2 : Grown b c) : Grown a c :=
  ⟨World.keptBut_trans h1.1 (World.keptBut_mono (fun _ f => f.elim) h2.1), fun x => (h2.2.1 x).trans (h1.2.1 x), Nat.le_trans h1.2.2 h2.2.2⟩

@[go_sem] theorem run_bits (b : Nat) (w : World) : (callFunc 49 #[.float .f64 b]).run Tryz.prog w = .ok (.value (.int .u64 (b : Int))) w := by
  rw [run_callFunc_extern Tryz.func49 (by kernel_rfl) (by kernel_rfl) (by kernel_rfl) (e := Extern.MathFloatBits.float64bits) (by kernel_rfl)]
  rfl
@[go_sem] theorem run_from (b : Int) (w : World) : (callFunc 22 #[.int .u64 b]).run Tryz.prog w = .ok (.value (.float .f64 b.toNat)) w := by
  rw [run_callFunc_extern Tryz.func22 (by kernel_rfl) (by kernel_rfl) (by kernel_rfl) (e := Extern.MathFloatBits.float64frombits) (by kernel_rfl)]
  rfl
@[go_sem] theorem run_neg (b : Nat) (w : World) : (Op.unary .neg (.float .f64 b)).run Tryz.prog w = .ok (.float .f64 (negW b)) w := rfl
@[go_sem] theorem run_store_float (a : Addr) (m : Mode) (b : Nat) (w : World) : (store a (.float .f64 b) m).run Tryz.prog w = stored Tryz.prog w a (.float .f64 b) m := run_store Tryz.prog w a _ m rfl
theorem ret_bool {a b : Bool} (h : a = b) : Ending.returned (.bool a) = .returned (.bool b) := by rw [h]
theorem ret_int {k : IntKind} {a b : Int} (h : a = b) : Ending.returned (.int k a) = .returned (.int k b) := by rw [h]
theorem ret_flt {a b : Nat} (h : a = b) : Ending.returned (.float .f64 a) = .returned (.float .f64 b) := by rw [h]
theorem cast_beq (a b : Nat) : ((a : Int) == (b : Int)) = (a == b) := by
  rw [Bool.eq_iff_iff, beq_iff_eq, beq_iff_eq]; omega

theorem nan_calls (w : World) : Calls Tryz.prog 36 #[] w fun e w' => e = .returned (.float .f64 qnan) ∧ w = w' := by
  go_enter Tryz.func36, Tryz.ntmps36
  go_wp2
  go_ret
  exact ⟨rfl, rfl⟩
theorem canon_calls (x : Nat) (w : World) : Calls Tryz.prog 61 #[.float .f64 x] w fun e w' => e = .returned (.float .f64 (canon x)) ∧ w = w' := by
  unfold canon
  cases hn : nanB x
  · have h : (FloatKind.f64.format.order x x != some .eq) = false := hn
    clear hn
    go_enter Tryz.func61, Tryz.ntmps61
    go_wp2
    go_ret
    exact ⟨rfl, rfl⟩
  · have h : (FloatKind.f64.format.order x x != some .eq) = true := hn
    clear hn
    go_enter Tryz.func61, Tryz.ntmps61
    go_wp2
    go_ret
    exact ⟨rfl, rfl⟩
theorem same_calls (x y : Nat) (w : World) : Calls Tryz.prog 39 #[.float .f64 x, .float .f64 y] w fun e w' => e = .returned (.bool (canon x == canon y)) ∧ w = w' := by
  go_enter Tryz.func39, Tryz.ntmps39
  go_wp2_with (go_at_call 61; refine (canon_calls _ _).mono ?_; rintro e w' ⟨rfl, rfl⟩)
  go_ret
  exact ⟨ret_bool (cast_beq _ _), rfl⟩
theorem clean_calls (x : Nat) (w : World) : Calls Tryz.prog 48 #[.float .f64 x] w fun e w' => e = .returned (.bool (!nanB x || x == qnan)) ∧ w = w' := by
  cases hn : nanB x
  · have h : (FloatKind.f64.format.order x x == some .eq) = true := by unfold nanB at hn; simpa using hn
    clear hn
    go_enter Tryz.func48, Tryz.ntmps48
    go_wp2
    go_ret
    exact ⟨rfl, rfl⟩
  · have h : (FloatKind.f64.format.order x x == some .eq) = false := by unfold nanB at hn; simpa using hn
    clear hn
    go_enter Tryz.func48, Tryz.ntmps48
    go_wp2
    go_ret
    exact ⟨ret_bool (cast_beq x 9221120237041090561), rfl⟩
def negB (x : Nat) : Bool := !nanB x && sg x
theorem negative_calls (x : Nat) (hx : x < 2 ^ 64) (w : World) : Calls Tryz.prog 69 #[.float .f64 x] w fun e w' => e = .returned (.bool (negB x)) ∧ w = w' := by
  unfold negB
  cases hn : nanB x
  · have h : (FloatKind.f64.format.order x x == some .eq) = true := by unfold nanB at hn; simpa using hn
    cases hs : sg x
    · have hb : (bits .and .u64 (x : Int) 9223372036854775808 != 0) = false := by rw [Fl.bits_and hx, hs]; rfl
      clear hn hx hs
      go_enter Tryz.func69, Tryz.ntmps69
      go_wp2
      go_ret
      exact ⟨rfl, rfl⟩
    · have hb : (bits .and .u64 (x : Int) 9223372036854775808 != 0) = true := by rw [Fl.bits_and hx, hs]; rfl
      clear hn hx hs
      go_enter Tryz.func69, Tryz.ntmps69
      go_wp2
      go_ret
      exact ⟨rfl, rfl⟩
  · have h : (FloatKind.f64.format.order x x == some .eq) = false := by unfold nanB at hn; simpa using hn
    clear hn hx
    go_enter Tryz.func69, Tryz.ntmps69
    go_wp2
    go_ret
    exact ⟨rfl, rfl⟩
def kindI (r : Nat) : Int := if Fl.INF < r then 1 else if r = Fl.INF then 2 else if r = 0 then 3 else if r < Fl.B52 then 4 else 5
theorem kind_calls (x : Nat) (hx : x < 2 ^ 64) (w : World) : Calls Tryz.prog 70 #[.float .f64 x] w fun e w' => e = .returned (.int .u8 (kindI (rg x))) ∧ w = w' := by
  have hb2 := Fl.bits_andNot hx
  clear hx
  generalize rg x = r at hb2 ⊢
  have H : Hid ((9218868437227405312 < r → kindI r = 1) ∧ (r = 9218868437227405312 → kindI r = 2) ∧ (r = 0 → kindI r = 3) ∧ (0 < r → r < 4503599627370496 → kindI r = 4) ∧ (4503599627370496 ≤ r → r < 9218868437227405312 → kindI r = 5)) := by
    show _ ∧ _
    unfold kindI Fl.INF Fl.B52
    refine ⟨?_, ?_, ?_, ?_, ?_⟩ <;> (repeat' split) <;> intros <;> omega
  by_cases h1 : 9218868437227405312 < r
  · have H1 := Lib.hid (H.out.1 h1)
    clear H
    have h1' : (9218868437227405312 : Int) < (r : Int) := by omega
    clear h1
    go_enter Tryz.func70, Tryz.ntmps70
    go_wp2
    go_ret
    exact ⟨ret_int H1.out.symm, rfl⟩
  · have h1' : ¬ (9218868437227405312 : Int) < (r : Int) := by omega
    by_cases h2 : r = 9218868437227405312
    · have H1 := Lib.hid (H.out.2.1 h2)
      clear H
      have h2' : ((r : Int) == 9218868437227405312) = true := by rw [beq_iff_eq]; omega
      clear h1 h2
      go_enter Tryz.func70, Tryz.ntmps70
      go_wp2
      go_ret
      exact ⟨ret_int H1.out.symm, rfl⟩
    · have h2' : ((r : Int) == 9218868437227405312) = false := by rw [beq_eq_false_iff_ne]; omega
      by_cases h3 : r = 0
      · have H1 := Lib.hid (H.out.2.2.1 h3)
        clear H
        have h3' : ((r : Int) == 0) = true := by rw [beq_iff_eq]; omega
        clear h1 h2 h3
        go_enter Tryz.func70, Tryz.ntmps70
        go_wp2
        go_ret
        exact ⟨ret_int H1.out.symm, rfl⟩
      · have h3' : ((r : Int) == 0) = false := by rw [beq_eq_false_iff_ne]; omega
        by_cases h4 : r < 4503599627370496
        · have H1 := Lib.hid (H.out.2.2.2.1 (by omega) h4)
          clear H
          have h4' : (r : Int) < 4503599627370496 := by omega
          clear h1 h2 h3 h4
          go_enter Tryz.func70, Tryz.ntmps70
          go_wp2
          go_ret
          exact ⟨ret_int H1.out.symm, rfl⟩
        · have H1 := Lib.hid (H.out.2.2.2.2 (by omega) (by omega))
          clear H
          have h4' : ¬ (r : Int) < 4503599627370496 := by omega
          clear h1 h2 h3 h4
          go_enter Tryz.func70, Tryz.ntmps70
          go_wp2
          go_ret
          exact ⟨ret_int H1.out.symm, rfl⟩
end Go.Proofs.YtaognphegancbaaGreatDoor
