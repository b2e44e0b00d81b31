/- vars: Env at the store of two variables. -/
import Derived.Test.YtaognphegancbaaGreatDoorVR
import Derived.Test.YtaognphegancbaaGreatDoorShelf
namespace Go.Proofs.YtaognphegancbaaGreatDoor
set_option linter.unusedVariables false
set_option linter.unusedSimpArgs false
open Go.RowKit Go.Maps Go.WideMaps
theorem wp_normal {P : Program} {c : Code} {Q : Exit → Act → World → Prop} {a : Act} {w : World} (h : c.wp P (Exit.then (fun a' w' => Q .normal a' w') fun _ _ _ => False) a w) : c.wp P Q a w :=
  Code.wp_mono (fun e a w h => by cases e <;> first | exact h | exact h.elim) h
/-- The names and the values that Env has gathered at round k. -/
def EnvSt (w : World) (E n0 k : Nat) (name : ByteArray) (x : Nat) : Prop :=
  match k with
  | 0 => w.heap[E]? = some (.cells #[.slice none 0 0, .slice none 0 0, .slice none 0 0] 76 (0, 0))
  | _ + 1 => ∃ g1 c1 g2 c2, n0 ≤ g1 ∧ n0 ≤ g2 ∧ w.heap[E]? = some (.cells #[.slice (some ⟨g1, 0, none⟩) 1 c1, .slice (some ⟨g2, 0, none⟩) 1 c2, .slice none 0 0] 76 (0, 0)) ∧ w.cell? ⟨g1, 0, none⟩ = some (.string name) ∧ w.cell? ⟨g2, 0, none⟩ = some (.float .f64 x)
theorem EnvSt.bel {w w' : World} {E n0 k : Nat} {name : ByteArray} {x : Nat} (h : EnvSt w E n0 k name x) (hb : Below w.heap.size w w') : EnvSt w' E n0 k name x := by
  cases k with
  | zero => exact (hb.block E (Array.getElem?_eq_some_iff.1 h).1).trans h
  | succ k =>
    obtain ⟨g1, c1, g2, c2, h1, h2, h3, h4, h5⟩ := h
    exact ⟨g1, c1, g2, c2, h1, h2, (hb.block E (Array.getElem?_eq_some_iff.1 h3).1).trans h3, cell_bel hb h4, cell_bel hb h5⟩
theorem set3 {W : World} {E t : Nat} {a b c v1 v2 v3 : Value} (hb : W.heap[E]? = some (.cells #[a, b, c] t (0, 0))) : (((W.setCell ⟨E, 0, none⟩ v1).setCell ⟨E, 1, none⟩ v2).setCell ⟨E, 2, none⟩ v3).heap[E]? = some (.cells #[v1, v2, v3] t (0, 0)) := by
  have hE : E < W.heap.size := (Array.getElem?_eq_some_iff.1 hb).1
  have hv := (Array.getElem?_eq_some_iff.1 hb).2
  simp [World.setCell, Array.getElem_modify, hE, hv]
theorem grown3 (W : World) (E : Nat) (v1 v2 v3 : Value) : W.grownBy (((W.setCell ⟨E, 0, none⟩ v1).setCell ⟨E, 1, none⟩ v2).setCell ⟨E, 2, none⟩ v3) (some E) :=
  ⟨rfl, rfl, rfl, by simp [World.setCell], fun i hi hne => by rw [Below.heap_setCell _ _ _ _ (by simpa using hne), Below.heap_setCell _ _ _ _ (by simpa using hne), Below.heap_setCell _ _ _ _ (by simpa using hne)]⟩
set_option maxRecDepth 100000 in
theorem env_calls {w : World} {S BM L F cl cf : Nat} {a b : VarD} {fst : List VarD} (h : IsStore w S BM L F cl cf [a, b] fst) (ha : a.num = true) (hb : b.num = false) :
    Calls Tryz.prog 33 #[.pointer (some ⟨S, 0, none⟩), .slice none 0 0] w fun e w' => ∃ g1 c1 g2 c2, e = .returned (.agg #[.slice (some ⟨g1, 0, none⟩) 1 c1, .slice (some ⟨g2, 0, none⟩) 1 c2, .slice none 0 0]) ∧ w'.cell? ⟨g1, 0, none⟩ = some (.string a.name) ∧ w'.cell? ⟨g2, 0, none⟩ = some (.float .f64 a.flt) ∧ Below w.heap.size w w' := by
  have HST := Lib.hid h
  have HA := Lib.hid ha
  have HB := Lib.hid hb
  clear h ha hb
  have B0 : ∀ o1 o2, Below w.heap.size w ((w.alloc o1).alloc o2) := fun o1 o2 => ((Below.refl _ w).alloc (Nat.le_refl _) _).alloc (by simp) _
  go_enter Tryz.func33, Tryz.ntmps33
  go_wp2_with (first
    | (go_at_call 55; (with_reducible refine (Tryz.slices_Clone_string_nil _ _ _).mono ?_); rintro e w1 ⟨rfl, rfl⟩))
  refine (all_store (HST.out.bel (B0 _ _)) (by simp) (by simp)).mono ?_
  rintro e w2 ⟨g, c, rfl, hg, hbk, hb2⟩
  have hs2 : w.heap.size + 2 ≤ w2.heap.size := by have := hb2.size; simp at this; omega
  have HW2 := Lib.hid ((B0 _ _).trans (hb2.mono (by simp; omega)))
  have HE0 : w2.heap[w.heap.size]? = some (.cells #[.slice none 0 0, .slice none 0 0, .slice none 0 0] 76 (0, 0)) := by
    rw [hb2.block _ (by simp; omega), Below.heap_alloc _ _ _ (by simp)]
    exact heap_alloc_new w _
  have HE1 : w2.heap[w.heap.size + 1]? = some (.cells #[.slice none 0 0, .slice none 0 0, .slice none 0 0] 76 (0, 0)) := by
    rw [hb2.block _ (by simp)]
    have := heap_alloc_new (w.alloc (.cells #[.slice none 0 0, .slice none 0 0, .slice none 0 0] 76)) (.cells #[.slice none 0 0, .slice none 0 0, .slice none 0 0] 76)
    rwa [World.size_alloc] at this
  have hg2 : w.heap.size + 2 ≤ g := by simpa using hg
  have H0 := Lib.hid HE0
  have H1 := Lib.hid HE1
  have HG := Lib.hid hbk
  clear HE0 HE1 hbk hb2 hg HST
  go_wp2_with fail
  go_loopw [14] (fun vi wr => ∃ k : Nat, k ≤ 2 ∧ vi = .int .i64 k ∧ (wr.heap[w.heap.size]? = some (.cells #[.slice none 0 0, .slice none 0 0, .slice none 0 0] 76 (0, 0)) ∧ Blk wr g c [a, b] ∧ EnvSt wr (w.heap.size + 1) (w.heap.size + 2) k a.name a.flt) ∧ Below w.heap.size w wr ∧ w.heap.size + 2 ≤ wr.heap.size) (fun vi _ => 2 - (intOf vi).toNat)
  case atStart => exact ⟨0, by omega, rfl, ⟨H0.out, HG.out, H1.out⟩, HW2.out, by omega⟩
  case round =>
    obtain ⟨k, hk, rfl, ⟨r0, r1, r2⟩, hbr, hsr⟩ := hrel
    have hgl : g < wr.heap.size := r1.lt
    by_cases hlt : k < 2
    · obtain ⟨x, hx⟩ : ∃ x, [a, b][k]? = some x := ⟨_, List.getElem?_eq_getElem (by simpa using hlt)⟩
      obtain ⟨a0, a1, a2, a3⟩ := r1.at4 x hx
      have R0 := Lib.hid r0
      have R1 := Lib.hid r1
      have HW := Lib.hid hbr
      by_cases hk0 : k = 0
      · have hxa : x = a := by subst hk0; simpa using hx.symm
        rw [hxa, HA.out] at a1
        have R2 := Lib.hid (hk0 ▸ r2 : EnvSt wr (w.heap.size + 1) (w.heap.size + 2) 0 a.name a.flt)
        have HX := Lib.hid hxa
        have HK := Lib.hid hk0
        clear r0 r1 r2 hbr hx hxa hk0
        go_wp2_with fail
        refine wp_normal (r6 (w.heap.size + 1) wr.heap.size x.name x.flt (.slice none 0 0) _ _ _ _ _ _ _ _ _ _ _ _ _ _ _ _ _ _ _ _ _ _ _ _ _ _ _ _ _ _ _ _ _ _ _ _ _ _ (Lib.hid ((Below.heap_alloc _ _ _ (by omega)).trans R2.out)) (by exact World.cell?_alloc_new _ _ _ _) (by exact World.cell?_alloc_new _ _ _ _) ?_)
        intro u21 u22 u23 u24 u25 u26 u27 u28 u29 u30 u31 u32 u33 u34 u35 w5 ⟨g1, c1, g2, c2, q1, q2, q3, q4, q5, q6⟩
        have hs5 := q6.size
        simp only [World.size_alloc] at q1 q2 hs5
        have Q3 := Lib.hid q3
        have Q45 := Lib.hid (And.intro q4 q5)
        have Q6 := Lib.hid q6
        clear q3 q4 q5 q6
        go_wp2_with fail
        go_roundw
        case rel =>
          have ek : k = 0 := HK.out
          refine ⟨k + 1, by omega, by go_num, ⟨?_, ?_, ?_⟩, ?_, by omega⟩
          · exact (Q6.out.block _ (by simp; omega) (by simp)).trans ((Below.heap_alloc _ _ _ (by omega)).trans R0.out)
          · exact (R1.out.al _).move (Q6.out.block _ (by simp; omega) (by simp; omega))
          · exact ⟨g1, c1, g2, c2, by omega, by omega, Q3.out, by rw [← HX.out]; exact Q45.out.1, by rw [← HX.out]; exact Q45.out.2⟩
          · exact (HW.out.alloc (by omega) _).grown Q6.out (by simp; omega) (fun j hj => by cases hj; omega)
        case measure => simp [intOf]; omega
      · have hxb : x = b := by obtain rfl : k = 1 := by omega
                               simpa using hx.symm
        rw [hxb, HB.out] at a1
        have R2 := Lib.hid r2
        have HK := Lib.hid hk0
        clear r0 r1 r2 hbr hx hk0
        go_wp2_with fail
        go_roundw
        case rel =>
          have HAl : ∀ o, Below wr.heap.size wr (wr.alloc o) := fun o => (Below.refl _ _).alloc (Nat.le_refl _) _
          refine ⟨k + 1, by omega, by go_num, ⟨(Below.heap_alloc _ _ _ (by omega)).trans R0.out, R1.out.al _, ?_⟩, HW.out.alloc (by omega) _, by simp; omega⟩
          obtain ⟨k, rfl⟩ : ∃ j, k = j + 1 := ⟨k - 1, by have := HK.out; omega⟩
          exact EnvSt.bel (k := k + 1) R2.out (HAl _)
        case measure => simp [intOf]; omega
    · obtain rfl : k = 2 := by omega
      obtain ⟨g1, c1, g2, c2, q1, q2, q3, q4, q5⟩ := r2
      have e0 : wr.cell? ⟨w.heap.size + 1, 0, none⟩ = some (.slice (some ⟨g1, 0, none⟩) 1 c1) := by simpa using cell_of_row wr _ 0 _ _ _ q3
      have e1 : wr.cell? ⟨w.heap.size + 1, 1, none⟩ = some (.slice (some ⟨g2, 0, none⟩) 1 c2) := by simpa using cell_of_row wr _ 1 _ _ _ q3
      have e2 : wr.cell? ⟨w.heap.size + 1, 2, none⟩ = some (.slice none 0 0) := by simpa using cell_of_row wr _ 2 _ _ _ q3
      have z0 : ∀ j, wr.frozen? ⟨w.heap.size, j, none⟩ = false := fun j => frozen_of_row wr _ j _ _ r0
      have f0 : wr.cell? ⟨w.heap.size, 0, none⟩ = some (.slice none 0 0) := by simpa using cell_of_row wr _ 0 _ _ _ r0
      have f1 : wr.cell? ⟨w.heap.size, 1, none⟩ = some (.slice none 0 0) := by simpa using cell_of_row wr _ 1 _ _ _ r0
      have f2 : wr.cell? ⟨w.heap.size, 2, none⟩ = some (.slice none 0 0) := by simpa using cell_of_row wr _ 2 _ _ _ r0
      have HW := Lib.hid hbr
      have HQ := Lib.hid (And.intro q4 q5)
      have R0 := Lib.hid r0
      clear hbr q3 q4 q5 r0 r1
      go_wp2_with fail
      have X1 := set3 (v1 := .slice (some ⟨g1, 0, none⟩) 1 c1) (v2 := .slice (some ⟨g2, 0, none⟩) 1 c2) (v3 := .slice none 0 0) R0.out
      have X2 := grown3 wr w.heap.size (.slice (some ⟨g1, 0, none⟩) 1 c1) (.slice (some ⟨g2, 0, none⟩) 1 c2) (.slice none 0 0)
      generalize (((wr.setCell ⟨w.heap.size, 0, none⟩ (.slice (some ⟨g1, 0, none⟩) 1 c1)).setCell ⟨w.heap.size, 1, none⟩ (.slice (some ⟨g2, 0, none⟩) 1 c2)).setCell ⟨w.heap.size, 2, none⟩ (.slice none 0 0)) = W at X1 X2
      have y0 : W.cell? ⟨w.heap.size, 0, none⟩ = some (.slice (some ⟨g1, 0, none⟩) 1 c1) := by simpa using cell_of_row W _ 0 _ _ _ X1
      have y1 : W.cell? ⟨w.heap.size, 1, none⟩ = some (.slice (some ⟨g2, 0, none⟩) 1 c2) := by simpa using cell_of_row W _ 1 _ _ _ X1
      have y2 : W.cell? ⟨w.heap.size, 2, none⟩ = some (.slice none 0 0) := by simpa using cell_of_row W _ 2 _ _ _ X1
      refine bodyPost_ret (v := .agg #[.slice (some ⟨g1, 0, none⟩) 1 c1, .slice (some ⟨g2, 0, none⟩) 1 c2, .slice none 0 0]) (by simp [results, Tryz.results33, go_sem, y0, y1, y2]) rfl ⟨g1, c1, g2, c2, rfl, ?_, ?_, ?_⟩
      · exact (World.cell?_of_block (X2.block g1 (World.block_lt_of_cell? wr _ HQ.out.1) (by simp; omega))).trans HQ.out.1
      · exact (World.cell?_of_block (X2.block g2 (World.block_lt_of_cell? wr _ HQ.out.2) (by simp; omega))).trans HQ.out.2
      · exact HW.out.grown X2 (by omega) (fun j hj => by cases hj; omega)
end Go.Proofs.YtaognphegancbaaGreatDoor
