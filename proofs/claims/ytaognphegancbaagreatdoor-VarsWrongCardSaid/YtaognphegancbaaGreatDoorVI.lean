/- vars: the library's functions that it calls; IsName. -/
import Derived.Test.YtaognphegancbaaGreatDoorVH
import Derived.Test.YtaognphegancbaaGreatDoorShelf
namespace Go.Proofs.YtaognphegancbaaGreatDoor
set_option linter.unusedVariables false
set_option linter.unusedSimpArgs false
open Go.RowKit Go.Maps Go.WideMaps Go.Shelf
theorem trim_calls (s cutset : ByteArray) (w : World) (hs : s.size ≤ 9223372036854775807) (hcs : cutset.size < 4294967281) (hascii : ∀ (j : Nat) (b : UInt8), cutset.data.toList[j]? = some b → b.toNat < 128) :
    Calls Tryz.prog 65 #[.string s, .string cutset] w fun e w' => e = .returned (.string ⟨(Lib.trimS s.data.toList cutset.data.toList).toArray⟩) ∧ Below w.heap.size w w' := Any.strings_Trim_laid Tryz.lays160 (by kernel_rfl) s cutset w hs hcs hascii
abbrev letters : ByteArray := ⟨#[97, 98, 99, 100, 101, 102, 103, 104, 105, 106, 107, 108, 109, 110, 111, 112, 113, 114, 115, 116, 117, 118, 119, 120, 121, 122, 48, 49, 50, 51, 52, 53, 54, 55, 56, 57, 95]⟩
theorem letters_ascii : ∀ (j : Nat) (b : UInt8), letters.data.toList[j]? = some b → b.toNat < 128 := ascii_of_all (by decide)
def barred : List ByteArray := [⟨#[109, 105, 110]⟩, ⟨#[109, 97, 120]⟩, ⟨#[110, 117, 109]⟩]
theorem strs_new (w : World) (l : List ByteArray) (t : TypeId) : ∀ j, j < l.length → (w.alloc (.cells (l.map Value.string).toArray t)).cell? ⟨w.heap.size, 0 + j, none⟩ = some (.string (l.getD j ByteArray.empty)) := by
  intro j hj
  rw [World.cell?_alloc_new]
  simp [List.getElem?_eq_getElem hj, List.getD_eq_getElem?_getD]
theorem barred_calls (s : ByteArray) (w : World) (b : Bool) (hb : Lib.containsS barred s = b) :
    Calls Tryz.prog 64 #[.slice (some ⟨w.heap.size, 0, none⟩) 3 3, .string s] (w.alloc (.cells #[.string ⟨#[109, 105, 110]⟩, .string ⟨#[109, 97, 120]⟩, .string ⟨#[110, 117, 109]⟩] 9)) fun e w' => e = .returned (.bool b) ∧ (w.alloc (.cells #[.string ⟨#[109, 105, 110]⟩, .string ⟨#[109, 97, 120]⟩, .string ⟨#[110, 117, 109]⟩] 9)) = w' := by
  have h := Tryz.slices_Contains_string w.heap.size 0 3 3 barred s (w.alloc (.cells #[.string ⟨#[109, 105, 110]⟩, .string ⟨#[109, 97, 120]⟩, .string ⟨#[110, 117, 109]⟩] 9)) (by decide) (by decide) (strs_new w barred 9)
  exact h.mono fun e w' ⟨h1, h2⟩ => ⟨by rw [h1]; show Ending.returned (.bool (Lib.containsS barred s)) = _; rw [hb], h2.symm⟩
theorem toList_data (s : ByteArray) : s.toList = s.data.toList := Lib.toList_data s
theorem ne_empty (s : ByteArray) (h : 0 < s.size) : s.toList.isEmpty = false := by
  rw [toList_data]
  cases h2 : s.data.toList with
  | nil => exact absurd (by simpa using congrArg List.length h2) (show ¬ s.data.size = 0 by have : s.data.size = s.size := rfl; omega)
  | cons a r => rfl
theorem isname_yes (s : ByteArray) (w : World) (h0 : 0 < s.size) (h1 : s.size ≤ 16) (b : UInt8) (hb : s[0]'h0 = b) (hb1 : 97 ≤ b.toNat) (hb2 : b.toNat ≤ 122) (hc : Lib.containsS barred s = false) (ht : Lib.trimS s.data.toList letters.data.toList = []) :
    Calls Tryz.prog 43 #[.string s] w fun e w' => e = .returned (.bool true) ∧ Below w.heap.size w w' := by
  have HT := Lib.hid (fun w => trim_calls s letters w (by omega) (by decide) letters_ascii)
  rw [ht] at HT
  have HC := Lib.hid (fun w => barred_calls s w false hc)
  have hne := ne_empty s h0
  clear hc ht
  go_enter Tryz.func43, Tryz.ntmps43
  go_wp2_with (first
    | (go_at_call 64; (with_reducible refine (HC.out _).mono ?_); rintro e w' ⟨rfl, rfl⟩)
    | (go_at_call 65; (with_reducible refine (HT.out _).mono ?_); rintro e w' ⟨rfl, hb⟩))
  go_ret
  exact ⟨rfl, ((Below.refl w.heap.size w).alloc (Nat.le_refl _) _).trans (hb.mono (by simp))⟩
theorem isname_min (w : World) : Calls Tryz.prog 43 #[.string ⟨#[109, 105, 110]⟩] w fun e w' => e = .returned (.bool false) ∧ Below w.heap.size w w' := by
  have HC := Lib.hid (fun w => barred_calls ⟨#[109, 105, 110]⟩ w true (by decide))
  go_enter Tryz.func43, Tryz.ntmps43
  go_wp2_with (go_at_call 64; (with_reducible refine (HC.out _).mono ?_); rintro e w' ⟨rfl, rfl⟩)
  go_ret
  exact ⟨rfl, (Below.refl w.heap.size w).alloc (Nat.le_refl _) _⟩
/-- A name that is right. -/
def GoodName (s : ByteArray) : Prop := ∀ w : World, Calls Tryz.prog 43 #[.string s] w fun e w' => e = .returned (.bool true) ∧ Below w.heap.size w w'
theorem good_x : GoodName ⟨#[120]⟩ := fun w => isname_yes _ w (by decide) (by decide) 120 rfl (by decide) (by decide) (by decide) (by decide)
theorem good_y : GoodName ⟨#[121]⟩ := fun w => isname_yes _ w (by decide) (by decide) 121 rfl (by decide) (by decide) (by decide) (by decide)
theorem good_z : GoodName ⟨#[122, 95, 49]⟩ := fun w => isname_yes _ w (by decide) (by decide) 122 rfl (by decide) (by decide) (by decide) (by decide)
theorem good_p : GoodName ⟨#[97, 98, 99, 100, 101, 102, 103, 104, 105, 106, 107, 108, 109, 110, 111, 112]⟩ := fun w => isname_yes _ w (by decide) (by decide) 97 rfl (by decide) (by decide) (by decide) (by decide)
theorem good_s : GoodName ⟨#[115]⟩ := fun w => isname_yes _ w (by decide) (by decide) 115 rfl (by decide) (by decide) (by decide) (by decide)
theorem good_t : GoodName ⟨#[116]⟩ := fun w => isname_yes _ w (by decide) (by decide) 116 rfl (by decide) (by decide) (by decide) (by decide)
theorem good_n : GoodName ⟨#[110]⟩ := fun w => isname_yes _ w (by decide) (by decide) 110 rfl (by decide) (by decide) (by decide) (by decide)
theorem good_a : GoodName ⟨#[97]⟩ := fun w => isname_yes _ w (by decide) (by decide) 97 rfl (by decide) (by decide) (by decide) (by decide)
end Go.Proofs.YtaognphegancbaaGreatDoor
