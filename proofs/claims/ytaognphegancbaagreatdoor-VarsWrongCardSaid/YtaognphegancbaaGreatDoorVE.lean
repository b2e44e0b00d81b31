/- vars: Set. -/
import Derived.Test.YtaognphegancbaaGreatDoorVD
import Derived.BigRegion
namespace Go.Proofs.YtaognphegancbaaGreatDoor
set_option linter.unusedVariables false
set_option linter.unusedSimpArgs false
open Go.RowKit Go.Maps Go.WideMaps
open Fl (nanB canon qnan sg rg negW)
/-- Where a call of Set has been successful: three cells of one variable. -/
def setV (w : World) (L i : Nat) (n : Bool) (t : ByteArray) (f : Nat) : World := ((w.setCell ⟨L, i * 4 + 1, none⟩ (.bool n)).setCell ⟨L, i * 4 + 2, none⟩ (.string t)).setCell ⟨L, i * 4 + 3, none⟩ (.float .f64 f)
theorem set_ok (S BM L n c : Nat) (names : List ByteArray) (i : Nat) (x : VarD) (t : ByteArray) (f : Nat) (w : World) (c0 : w.cell? ⟨S, 0, none⟩ = some (.slice (some ⟨L, 0, none⟩) n c)) (c1 : w.cell? ⟨S, 1, none⟩ = some (.map (some BM))) (hm : IsMapOf w BM names)
    (hs : x.name.size ≤ maxLen) (hn : names.Nodup) (hi : names[i]? = some x.name) (hin : i < n) (hn2 : n ≤ 1000) (h4 : At4 w L i x) (hz : ∀ j, w.frozen? ⟨L, j, none⟩ = false) (hr : rightB x.num t f = true) :
    Calls Tryz.prog 10 #[.pointer (some ⟨S, 0, none⟩), .string x.name, .agg #[.bool x.num, .string t, .float .f64 f]] w fun e w' => e = .returned (.int .i64 0) ∧ ∃ w1, Below w.heap.size w w1 ∧ setV w1 L i x.num t f = w' := by
  obtain ⟨h0, h1, h2, h3⟩ := h4
  have hS : S < w.heap.size := World.block_lt_of_cell? w _ c0
  have hL : L < w.heap.size := World.block_lt_of_cell? w _ h0
  have HF := Lib.hid (fun w h1 h2 => find_hit S BM names i x.name w h1 h2 hs hn hi)
  have HM := Lib.hid hm
  have HR := Lib.hid (fun w => (hr ▸ right_calls x.num t f w : Calls Tryz.prog 27 #[.agg #[.bool x.num, .string t, .float .f64 f]] w fun e w' => e = .returned (.bool true) ∧ Below w.heap.size w w'))
  clear hs hn hi hm hr
  go_enter Tryz.func10, Tryz.ntmps10
  go_wp2_with (go_at_call 37; (with_reducible refine (HF.out _ (cell_al c1 _) (HM.out.al _)).mono ?_); rintro e w' ⟨rfl, rfl⟩)
  go_region
  go_wp2_with (go_at_call 27; (with_reducible refine (HR.out _).mono ?_); rintro e w' ⟨rfl, hb⟩)
  have E : ∀ b o v, w.cell? ⟨b, o, none⟩ = some v → w'.cell? ⟨b, o, none⟩ = some v := fun b o v h => cell_bel hb (cell_al h _)
  have c0' := E _ _ _ c0
  have h1' := E _ _ _ h1
  have h2' := E _ _ _ h2
  have h3' := E _ _ _ h3
  have n0 : w'.cell? ⟨w.heap.size, 0, none⟩ = some (.bool x.num) := cell_bel hb (by exact World.cell?_alloc_new _ _ _ _)
  have n1 : w'.cell? ⟨w.heap.size, 1, none⟩ = some (.string t) := cell_bel hb (by exact World.cell?_alloc_new _ _ _ _)
  have n2 : w'.cell? ⟨w.heap.size, 2, none⟩ = some (.float .f64 f) := cell_bel hb (by exact World.cell?_alloc_new _ _ _ _)
  have z1 : w'.frozen? ⟨L, i * 4 + 1, none⟩ = false := by
    rw [hb.frozen (p := ⟨L, i * 4 + 1, none⟩) (by simp; omega)]
    exact (World.frozen?_alloc_old w _ ⟨L, i * 4 + 1, none⟩ (by simp; omega)).trans (hz _)
  have z2 : w'.frozen? ⟨L, i * 4 + 2, none⟩ = false := by
    rw [hb.frozen (p := ⟨L, i * 4 + 2, none⟩) (by simp; omega)]
    exact (World.frozen?_alloc_old w _ ⟨L, i * 4 + 2, none⟩ (by simp; omega)).trans (hz _)
  have z3 : w'.frozen? ⟨L, i * 4 + 3, none⟩ = false := by
    rw [hb.frozen (p := ⟨L, i * 4 + 3, none⟩) (by simp; omega)]
    exact (World.frozen?_alloc_old w _ ⟨L, i * 4 + 3, none⟩ (by simp; omega)).trans (hz _)
  have HB := Lib.hid hb
  clear E hb hz
  go_region
  go_wp2
  go_ret
  exact ⟨rfl, w'.drew, (((Below.refl _ _).alloc (Nat.le_refl _) _).drew.trans (HB.out.mono (by simp))).drew, rfl⟩
end Go.Proofs.YtaognphegancbaaGreatDoor
