/- vars: Set where it refuses. -/
import Derived.Test.YtaognphegancbaaGreatDoorVP
namespace Go.Proofs.YtaognphegancbaaGreatDoor
set_option linter.unusedVariables false
set_option linter.unusedSimpArgs false
open Go.RowKit Go.Maps Go.WideMaps
open Fl (nanB canon qnan sg rg negW)
theorem set_name {w : World} {S BM L F cl cf : Nat} {cur fst : List VarD} (h : IsStore w S BM L F cl cf cur fst) (s : ByteArray) (hs : s.size ≤ maxLen) (hi : s ∉ cur.map (·.name)) (n : Bool) (t : ByteArray) (f : Nat) :
    Calls Tryz.prog 10 #[.pointer (some ⟨S, 0, none⟩), .string s, .agg #[.bool n, .string t, .float .f64 f]] w fun e w' => e = .returned (.int .i64 281) ∧ Below w.heap.size w w' := by
  have c1 := h.c1
  have HF := Lib.hid (fun w h1 h2 => find_miss S BM (cur.map (·.name)) s w h1 h2 hs hi)
  have HM := Lib.hid h.map
  clear h hs hi
  go_enter Tryz.func10, Tryz.ntmps10
  go_wp2_with (go_at_call 37; (with_reducible refine (HF.out _ (cell_al c1 _) (HM.out.al _)).mono ?_); rintro e w' ⟨rfl, rfl⟩)
  go_ret
  exact ⟨rfl, (Below.refl w.heap.size w).alloc (Nat.le_refl _) _⟩
theorem set_kind {w : World} {S BM L F cl cf : Nat} {cur fst : List VarD} (h : IsStore w S BM L F cl cf cur fst) (hn : Named cur) (i : Nat) (x : VarD) (hx : cur[i]? = some x) (n : Bool) (hne : x.num ≠ n) (t : ByteArray) (f : Nat) :
    Calls Tryz.prog 10 #[.pointer (some ⟨S, 0, none⟩), .string x.name, .agg #[.bool n, .string t, .float .f64 f]] w fun e w' => e = .returned (.int .i64 282) ∧ Below w.heap.size w w' := by
  have c0 := h.c0
  have c1 := h.c1
  obtain ⟨h0, h1, h2, h3⟩ := h.own.at4 x hx
  have hS : S < w.heap.size := World.block_lt_of_cell? w _ c0
  have hL : L < w.heap.size := World.block_lt_of_cell? w _ h0
  have hin : i < cur.length := (List.getElem?_eq_some_iff.1 hx).1
  have hf := hn.few
  have HF := Lib.hid (fun w h1 h2 => find_hit S BM (cur.map (·.name)) i x.name w h1 h2 (hn.le (List.mem_of_getElem? hx)) hn.nd (names_at hx))
  have HM := Lib.hid h.map
  have hb : x.num = !n := by cases hxn : x.num <;> cases n <;> simp_all
  rw [hb] at h1
  clear h hn hx hne hb
  cases n
  all_goals
    go_enter Tryz.func10, Tryz.ntmps10
    go_wp2_with (go_at_call 37; (with_reducible refine (HF.out _ (cell_al c1 _) (HM.out.al _)).mono ?_); rintro e w' ⟨rfl, rfl⟩)
    go_region
    go_wp2_with fail
    go_ret
    exact ⟨rfl, ((Below.refl w.heap.size w).alloc (Nat.le_refl _) _).drew⟩
theorem set_value {w : World} {S BM L F cl cf : Nat} {cur fst : List VarD} (h : IsStore w S BM L F cl cf cur fst) (hn : Named cur) (i : Nat) (x : VarD) (hx : cur[i]? = some x) (t : ByteArray) (f : Nat) (hr : rightB x.num t f = false) :
    Calls Tryz.prog 10 #[.pointer (some ⟨S, 0, none⟩), .string x.name, .agg #[.bool x.num, .string t, .float .f64 f]] w fun e w' => e = .returned (.int .i64 283) ∧ Below w.heap.size w w' := by
  have c0 := h.c0
  have c1 := h.c1
  obtain ⟨h0, h1, h2, h3⟩ := h.own.at4 x hx
  have hS : S < w.heap.size := World.block_lt_of_cell? w _ c0
  have hL : L < w.heap.size := World.block_lt_of_cell? w _ h0
  have hin : i < cur.length := (List.getElem?_eq_some_iff.1 hx).1
  have hf := hn.few
  have HF := Lib.hid (fun w h1 h2 => find_hit S BM (cur.map (·.name)) i x.name w h1 h2 (hn.le (List.mem_of_getElem? hx)) hn.nd (names_at hx))
  have HM := Lib.hid h.map
  have hq := fun w => right_calls x.num t f w
  rw [hr] at hq
  have HR := Lib.hid hq
  clear h hn hx hr hq
  go_enter Tryz.func10, Tryz.ntmps10
  go_wp2_with (go_at_call 37; (with_reducible refine (HF.out _ (cell_al c1 _) (HM.out.al _)).mono ?_); rintro e w' ⟨rfl, rfl⟩)
  go_region
  go_wp2_with (go_at_call 27; (with_reducible refine (HR.out _).mono ?_); rintro e w' ⟨rfl, hb⟩)
  go_ret
  exact ⟨rfl, (((Below.refl w.heap.size w).alloc (Nat.le_refl _) _).drew).trans (hb.mono (by simp))⟩
end Go.Proofs.YtaognphegancbaaGreatDoor
