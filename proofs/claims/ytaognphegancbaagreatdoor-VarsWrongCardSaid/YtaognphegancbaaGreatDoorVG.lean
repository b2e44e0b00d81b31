/- vars: slices.Clone at variables; All. -/
import Derived.Test.YtaognphegancbaaGreatDoorVF
import Derived.Lib.SliceRun
namespace Go.Proofs.YtaognphegancbaaGreatDoor
set_option linter.unusedVariables false
set_option linter.unusedSimpArgs false
open Go.RowKit Go.Maps Go.WideMaps
open Fl (nanB canon qnan sg rg negW)
def zVar : Value := .agg #[.string ⟨#[]⟩, .bool false, .string ⟨#[]⟩, .float .f64 0]
theorem var_info : (Tryz.prog.info? 37).map (fun i => (i.zero, i.size, i.bytes)) = some (some zVar, 4, 48) := by kernel_rfl
theorem flat_one (xs : List VarD) : ∀ u ∈ flat xs, u.oneCell' = true := by
  intro u hu
  unfold flat at hu
  obtain ⟨x, _, hx⟩ := List.mem_flatMap.1 hu
  simp [vcells] at hx
  rcases hx with rfl | rfl | rfl | rfl <;> rfl
theorem empty_row (w : World) (t : TypeId) (size : Nat) : (w.alloc (.cells #[] t)).ownsRow w.heap.size t size (.slice (some ⟨w.heap.size, 0, none⟩) 0 0) 0 [] :=
  ⟨by simp, .inr ⟨w.heap.size, 0, #[], rfl, Nat.le_refl _, heap_alloc_new w _, Nat.le_refl _, Nat.zero_le _, by simp, by simp⟩⟩
theorem below_by {w w' : World} {B : Nat} {row : Option Nat} (h : w.grownBy w' row) (hB : B ≤ w.heap.size) (hr : ∀ k, row = some k → B ≤ k) : Below B w w' := (Below.refl B w).grown h hB hr
theorem own_block {w : World} {b : Nat} {e : TypeId} {size n : Nat} {v : Value} {xs : List Value} (h : w.ownsRow b e size v n xs) (h0 : 0 < n) : ∃ g c, v = .slice (some ⟨g, 0, none⟩) n c ∧ b ≤ g := by
  rcases h.2 with ⟨_, h⟩ | ⟨g, c, _, rfl, hb, _⟩
  · omega
  · exact ⟨g, c, rfl, hb⟩
set_option maxRecDepth 100000 in
theorem clone_calls (g c n : Nat) (xs : List VarD) (w : World) (hb : Blk w g c xs) (h0 : 0 < n) (hn : n = xs.length) (hf : n ≤ 1000) :
    Calls Tryz.prog 8 #[.slice (some ⟨g, 0, none⟩) n c] w fun e w' => ∃ g' c', e = .returned (.slice (some ⟨g', 0, none⟩) n c') ∧ w.heap.size ≤ g' ∧ Blk w' g' c' xs ∧ Below w.heap.size w w' := by
  obtain ⟨i0, hi, hz0, hz1, hz2⟩ := info_parts var_info
  have HB := Lib.hid hb
  have HN := Lib.hid hn
  have HC := Lib.hid (fun o j u h => cell_al (w := w) (hb.rowV j u h) o)
  have hle : (flat xs).length = n * 4 := by rw [flat_len, hn]
  have HL := Lib.hid hle
  have HI := Lib.hid hi
  have H0 := Lib.hid hz0
  have H1 := Lib.hid hz1
  have H2 := Lib.hid hz2
  clear hb hn hle hi hz0 hz1 hz2
  have hm := fun (w : World) a n c => Lib.run_eql_slice_nil (P := Tryz.prog) w 29 37 a n c 0 0 Tryz.underlying29
  go_enter Tryz.func8, Tryz.ntmps8
  go_wp2_with (at_builtin; refine wpList_append_own_at _ rfl (.tmp 5) (.tmp 6) 29 rfl w.heap.size 37 i0 zVar 4 48 Tryz.underlying29 HI.out H0.out H1.out H2.out rfl (by decide) _ _ _ rfl (empty_row w _ _) ⟨g, 0, none⟩ n c (flat xs) rfl HL.out (HC.out _) (flat_one xs) (by unfold maxLen; omega) (by omega) (by simp) ?_; intro v' w1 hown' hgrow hnil hloc)
  rw [Nat.zero_add, List.nil_append] at hown'
  obtain ⟨g', c', rfl, hg'⟩ := own_block hown' h0
  go_wp2
  go_ret
  obtain ⟨_, hge, hblk⟩ := blk_of hown'
  exact ⟨g', c', rfl, hg', hblk, ((Below.refl w.heap.size w).alloc (Nat.le_refl _) _).trans (below_by hgrow (by simp) (fun k hk => by cases hk; exact Nat.le_refl _))⟩
/-- All: a copy of the list. -/
theorem all_store {w : World} {S BM L F cl cf : Nat} {cur fst : List VarD} (h : IsStore w S BM L F cl cf cur fst) (h0 : 0 < cur.length) (hf : cur.length ≤ 1000) :
    Calls Tryz.prog 11 #[.pointer (some ⟨S, 0, none⟩)] w fun e w' => ∃ g' c', e = .returned (.slice (some ⟨g', 0, none⟩) cur.length c') ∧ w.heap.size ≤ g' ∧ Blk w' g' c' cur ∧ Below w.heap.size w w' := by
  have c0 := h.c0
  have c1 := h.c1
  have HC := Lib.hid (clone_calls L cl cur.length cur w h.own h0 rfl hf)
  clear h h0 hf
  go_enter Tryz.func11, Tryz.ntmps11
  go_wp2_with (first
    | (go_at_call 38; (with_reducible refine (none_calls _ (.int .i64 0) (.int .i64 0) BM _ c1).mono ?_); rintro e w' ⟨rfl, rfl⟩)
    | (go_at_call 8; (with_reducible refine HC.out.mono ?_); rintro e w' ⟨g', c', rfl, hg, hb, hw⟩))
  go_ret
  exact ⟨g', c', rfl, hg, hb, hw⟩
end Go.Proofs.YtaognphegancbaaGreatDoor
