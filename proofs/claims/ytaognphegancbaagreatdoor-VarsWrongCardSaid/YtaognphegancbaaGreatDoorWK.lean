/- vars: Text at a bad value; New where Check refuses. -/
import Derived.Test.YtaognphegancbaaGreatDoorWD
namespace Go.Proofs.YtaognphegancbaaGreatDoor
set_option linter.unusedVariables false
set_option linter.unusedSimpArgs false
open Go.RowKit Go.Maps Go.WideMaps
theorem text_bad (n : Bool) (t : ByteArray) (x : Nat) (w : World) (hr : rightB n t x = false) :
    Calls Tryz.prog 26 #[.agg #[.bool n, .string t, .float .f64 x]] w fun e w' => e = .returned (.tuple #[.string ⟨#[]⟩, .int .i64 283]) ∧ Below w.heap.size w w' := by
  have hq := fun w => right_calls n t x w
  rw [hr] at hq
  have HR := Lib.hid hq
  clear hq hr
  go_enter Tryz.func26, Tryz.ntmps26
  go_wp2_with (go_at_call 27; (with_reducible refine (HR.out _).mono ?_); rintro e w1 ⟨rfl, hb⟩)
  go_ret2
  exact ⟨rfl, ((Below.refl w.heap.size w).alloc (Nat.le_refl _) _).trans (hb.mono (by simp))⟩
theorem new_twice (g c n : Nat) (xs : List VarD) (w : World) (h1 : Blk w g c xs) (hn : n = xs.length) (h12 : n ≤ 12) (i : Nat) (hi : i < n) (hok : ∀ k x, k < i → xs[k]? = some x → OkAt xs k x) (x : VarD) (hxi : xs[i]? = some x) (hgn : GoodName x.name) (hdup : hasName (xs.take i) x.name = true) :
    Calls Tryz.prog 24 #[.slice (some ⟨g, 0, none⟩) n c] w fun e w' => e = .returned (.tuple #[.pointer none, .int .i64 280]) ∧ Below w.heap.size w w' := by
  have HC := Lib.hid (check_twice g c n xs w h1 hn h12 i hi hok x hxi hgn hdup)
  clear h1 hn hok hxi hgn hdup
  go_enter Tryz.func24, Tryz.ntmps24
  go_wp2_with (go_at_call 23; (with_reducible refine HC.out.mono ?_); rintro e w1 ⟨rfl, hb1⟩)
  go_ret2
  exact ⟨rfl, hb1⟩
end Go.Proofs.YtaognphegancbaaGreatDoor
