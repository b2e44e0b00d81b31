/- vars: Write at the zeros; Text, Say; Set where it refuses. -/
import Derived.Test.YtaognphegancbaaGreatDoorVO
namespace Go.Proofs.YtaognphegancbaaGreatDoor
set_option linter.unusedVariables false
set_option linter.unusedSimpArgs false
open Go.RowKit Go.Maps Go.WideMaps
open Fl (nanB canon qnan sg rg negW)
theorem neg_zero_pos (w : World) : Calls Tryz.prog 69 #[.float .f64 0] w fun e w' => e = .returned (.bool false) ∧ w = w' := by
  have h := negative_calls 0 (by decide) w
  rw [show negB 0 = false by decide +kernel] at h
  exact h
theorem neg_zero_neg (w : World) : Calls Tryz.prog 69 #[.float .f64 9223372036854775808] w fun e w' => e = .returned (.bool true) ∧ w = w' := by
  have h := negative_calls 9223372036854775808 (by decide) w
  rw [show negB 9223372036854775808 = true by decide +kernel] at h
  exact h
theorem kind_zero (w : World) : Calls Tryz.prog 70 #[.float .f64 0] w fun e w' => e = .returned (.int .u8 3) ∧ w = w' := by
  have h := kind_calls 0 (by decide) w
  rw [show kindI (rg 0) = 3 by decide +kernel] at h
  exact h
theorem write_zero (w : World) : Calls Tryz.prog 47 #[.float .f64 0] w fun e w' => e = .returned (.string ⟨#[48]⟩) ∧ w = w' := by
  go_enter Tryz.func47, Tryz.ntmps47
  go_wp2_with (first
    | (go_at_call 69; (with_reducible refine (neg_zero_pos _).mono ?_); rintro e w' ⟨rfl, rfl⟩)
    | (go_at_call 70; (with_reducible refine (kind_zero _).mono ?_); rintro e w' ⟨rfl, rfl⟩))
  go_ret
  exact ⟨rfl, rfl⟩
theorem write_negnz (w : World) : Calls Tryz.prog 47 #[.float .f64 (negW 9223372036854775808)] w fun e w' => e = .returned (.string ⟨#[48]⟩) ∧ w = w' := by
  rw [show negW 9223372036854775808 = 0 by decide +kernel]
  exact write_zero w
theorem write_nz (w : World) : Calls Tryz.prog 47 #[.float .f64 9223372036854775808] w fun e w' => e = .returned (.string ⟨#[45, 48]⟩) ∧ w = w' := by
  go_enter Tryz.func47, Tryz.ntmps47
  go_wp2_with (first
    | (go_at_call 69; (with_reducible refine (neg_zero_neg _).mono ?_); rintro e w' ⟨rfl, rfl⟩)
    | (go_at_call 47; (with_reducible refine (write_negnz _).mono ?_); rintro e w' ⟨rfl, rfl⟩))
  go_ret
  exact ⟨rfl, rfl⟩
theorem own0 {w w' : World} {a b c : Value} {t : TypeId} (hb : Below (w.alloc (.cells #[a, b, c] t)).heap.size (w.alloc (.cells #[a, b, c] t)) w') : w'.cell? ⟨w.heap.size, 0, none⟩ = some a := cell_bel hb (by exact World.cell?_alloc_new _ _ _ _)
theorem own1 {w w' : World} {a b c : Value} {t : TypeId} (hb : Below (w.alloc (.cells #[a, b, c] t)).heap.size (w.alloc (.cells #[a, b, c] t)) w') : w'.cell? ⟨w.heap.size, 1, none⟩ = some b := cell_bel hb (by exact World.cell?_alloc_new _ _ _ _)
theorem own2 {w w' : World} {a b c : Value} {t : TypeId} (hb : Below (w.alloc (.cells #[a, b, c] t)).heap.size (w.alloc (.cells #[a, b, c] t)) w') : w'.cell? ⟨w.heap.size, 2, none⟩ = some c := cell_bel hb (by exact World.cell?_alloc_new _ _ _ _)
theorem text_num (x : Nat) (s : ByteArray) (w : World) (hr : rightB true ⟨#[]⟩ x = true) (hw : ∀ w, Calls Tryz.prog 47 #[.float .f64 x] w fun e w' => e = .returned (.string s) ∧ w = w') :
    Calls Tryz.prog 26 #[.agg #[.bool true, .string ⟨#[]⟩, .float .f64 x]] w fun e w' => e = .returned (.tuple #[.string s, .int .i64 0]) ∧ Below w.heap.size w w' := by
  have hq := fun w => right_calls true ⟨#[]⟩ x w
  rw [hr] at hq
  have HR := Lib.hid hq
  clear hq
  have HW := Lib.hid hw
  clear hr hw
  go_enter Tryz.func26, Tryz.ntmps26
  go_wp2_with (go_at_call 27; (with_reducible refine (HR.out _).mono ?_); rintro e w1 ⟨rfl, hb⟩; have n0 := own0 hb; have n2 := own2 hb)
  go_wp2_with (go_at_call 47; (with_reducible refine (HW.out _).mono ?_); rintro e w2 ⟨rfl, rfl⟩)
  go_ret2
  exact ⟨rfl, ((Below.refl w.heap.size w).alloc (Nat.le_refl _) _).trans (hb.mono (by simp))⟩
theorem say_num {w : World} {S BM L F cl cf : Nat} {cur fst : List VarD} (h : IsStore w S BM L F cl cf cur fst) (hn : Named cur) (i : Nat) (x : VarD) (hx : cur[i]? = some x) (hnum : x.num = true) (htx : x.text = ⟨#[]⟩) (s : ByteArray) (hr : rightB true ⟨#[]⟩ x.flt = true)
    (hw : ∀ w, Calls Tryz.prog 47 #[.float .f64 x.flt] w fun e w' => e = .returned (.string s) ∧ w = w') :
    Calls Tryz.prog 31 #[.pointer (some ⟨S, 0, none⟩), .string x.name] w fun e w' => e = .returned (.tuple #[.string s, .int .i64 0]) ∧ Below w.heap.size w w' := by
  have c0 := h.c0
  have c1 := h.c1
  obtain ⟨h0, h1, h2, h3⟩ := h.own.at4 x hx
  rw [hnum] at h1
  rw [htx] at h2
  have hin : i < cur.length := (List.getElem?_eq_some_iff.1 hx).1
  have hf := hn.few
  have HF := Lib.hid (fun w h1 h2 => find_hit S BM (cur.map (·.name)) i x.name w h1 h2 (hn.le (List.mem_of_getElem? hx)) hn.nd (names_at hx))
  have HM := Lib.hid h.map
  have HT := Lib.hid (fun w => text_num x.flt s w hr hw)
  clear h hn hx hnum htx hr hw
  go_enter Tryz.func31, Tryz.ntmps31
  go_wp2_with (go_at_call 37; (with_reducible refine (HF.out _ c1 HM.out).mono ?_); rintro e w' ⟨rfl, rfl⟩)
  refine (HT.out _).mono ?_
  rintro e w1 ⟨rfl, hb⟩
  go_wp2
  go_ret2
  exact ⟨rfl, hb⟩
end Go.Proofs.YtaognphegancbaaGreatDoor
