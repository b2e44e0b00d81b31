/- vars: Made's closure; Numbers, Texts. -/
import Derived.Test.YtaognphegancbaaGreatDoorVT
namespace Go.Proofs.YtaognphegancbaaGreatDoor
set_option linter.unusedVariables false
set_option linter.unusedSimpArgs false
open Go.RowKit Go.Maps Go.WideMaps
/-- A row of bytes. -/
def SmallB (w : World) (A : Option Addr) (n : Nat) : Prop := 0 < n → ∃ ad, A = some ad ∧ ∀ j, j < n → ∃ b : Nat, b < 256 ∧ w.cell? (ad.add j) = some (.int .u8 b)
theorem SmallB.bel {w w' : World} {A : Option Addr} {n : Nat} (h : SmallB w A n) (hb : Below w.heap.size w w') : SmallB w' A n := fun h0 => by
  obtain ⟨ad, e, hc⟩ := h h0
  exact ⟨ad, e, fun j hj => by obtain ⟨b, h1, h2⟩ := hc j hj; exact ⟨b, h1, cell_bel hb h2⟩⟩
theorem numbers_calls (w : World) : Calls Tryz.prog 57 #[] w fun e w' => e = .returned (.slice (some ⟨w.heap.size, 0, none⟩) 4 4) ∧ w.alloc (.cells #[.string ⟨#[120]⟩, .string ⟨#[121]⟩, .string ⟨#[122, 95, 49]⟩, .string ⟨#[97, 98, 99, 100, 101, 102, 103, 104, 105, 106, 107, 108, 109, 110, 111, 112]⟩] 9) = w' := by
  go_enter Tryz.func57, Tryz.ntmps57
  go_wp2
  go_ret
  exact ⟨rfl, rfl⟩
theorem texts_calls (w : World) : Calls Tryz.prog 58 #[] w fun e w' => e = .returned (.slice (some ⟨w.heap.size, 0, none⟩) 2 2) ∧ w.alloc (.cells #[.string ⟨#[115]⟩, .string ⟨#[116]⟩] 9) = w' := by
  go_enter Tryz.func58, Tryz.ntmps58
  go_wp2
  go_ret
  exact ⟨rfl, rfl⟩
theorem pick_calls (Bx : Nat) (A : Option Addr) (n c i : Nat) (w : World) (hi : i ≤ 100) (hn : n ≤ maxLen) (hB : w.cell? ⟨Bx, 1, none⟩ = some (.slice A n c)) (hA : SmallB w A n) :
    Calls Tryz.prog 56 #[.int .i64 i, .pointer (some ⟨Bx, 0, none⟩)] w fun e w' => ∃ b : Nat, b < 256 ∧ e = .returned (.int .i64 b) ∧ Below w.heap.size w w' := by
  have hmx : n ≤ 9223372036854775807 := by unfold maxLen at hn; omega
  clear hn
  by_cases h0 : n = 0
  · subst h0
    clear hA
    go_enter Tryz.func56, Tryz.ntmps56
    go_wp2_with fail
    go_ret
    exact ⟨0, by omega, rfl, Below.refl _ _⟩
  · obtain ⟨ad, rfl, hc⟩ := hA (by omega)
    obtain ⟨b, hb, hbc⟩ := hc (i % n) (Nat.mod_lt _ (by omega))
    have hm1 : i % n < n := Nat.mod_lt _ (by omega)
    have hm2 : i % n ≤ i := Nat.mod_le _ _
    generalize hr : i % n = r at hbc hm1 hm2
    have hz : (0 : Int) ≤ (r : Int) := by omega
    have hlt : (r : Int) < (n : Int) := by omega
    clear hc hA
    go_enter Tryz.func56, Tryz.ntmps56
    go_wp2_with fail
    go_quiet (fail)
    go_wp2_with fail
    go_ret
    exact ⟨b, hb, rfl, below_drewN (Below.refl _ _)⟩
end Go.Proofs.YtaognphegancbaaGreatDoor
