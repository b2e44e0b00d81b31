/- vars: Copy. -/
import Derived.Test.YtaognphegancbaaGreatDoorWF
import Derived.Deep.RegionHeld3
namespace Go.Proofs.YtaognphegancbaaGreatDoor
set_option linter.unusedVariables false
set_option linter.unusedSimpArgs false
open Go.RowKit Go.Maps Go.WideMaps
theorem keepS {W W' : World} {S BM L F cl cf n m : Nat} {cur fst : List VarD} (h : W.cell? ⟨S, 0, none⟩ = some (.slice (some ⟨L, 0, none⟩) n cl) ∧ W.cell? ⟨S, 1, none⟩ = some (.map (some BM)) ∧ W.cell? ⟨S, 2, none⟩ = some (.slice (some ⟨F, 0, none⟩) m cf) ∧ IsStore W S BM L F cl cf cur fst) (hb : Below W.heap.size W W') :
    W'.cell? ⟨S, 0, none⟩ = some (.slice (some ⟨L, 0, none⟩) n cl) ∧ W'.cell? ⟨S, 1, none⟩ = some (.map (some BM)) ∧ W'.cell? ⟨S, 2, none⟩ = some (.slice (some ⟨F, 0, none⟩) m cf) ∧ IsStore W' S BM L F cl cf cur fst :=
  ⟨cell_bel hb h.1, cell_bel hb h.2.1, cell_bel hb h.2.2.1, h.2.2.2.bel hb⟩
theorem size_drew' (w : World) : w.drew.heap.size = w.heap.size := rfl
theorem copy_fin {w WZ : World} {gL cL bM gF cF n m : Nat} {cur fst : List VarD} (hn : n = cur.length) (hm : m = fst.length) (hL : Blk WZ gL cL cur) (hF : Blk WZ gF cF fst) (hM : IsMapOf WZ bM (cur.map (·.name))) (hne : gL ≠ gF) (b1 : w.heap.size ≤ gL) (b2 : w.heap.size ≤ gF) (b3 : w.heap.size ≤ bM) (hb : Below w.heap.size w WZ) :
    ∃ S2 BM2 L2 F2 cl2 cf2, Ending.returned (.pointer (some ⟨WZ.heap.size, 0, none⟩)) = Ending.returned (.pointer (some ⟨S2, 0, none⟩)) ∧ (w.heap.size ≤ S2 ∧ w.heap.size ≤ BM2 ∧ w.heap.size ≤ L2 ∧ w.heap.size ≤ F2) ∧ IsStore (WZ.alloc (.cells #[.slice (some ⟨gL, 0, none⟩) n cL, .map (some bM), .slice (some ⟨gF, 0, none⟩) m cF] 89)) S2 BM2 L2 F2 cl2 cf2 cur fst ∧ Below w.heap.size w (WZ.alloc (.cells #[.slice (some ⟨gL, 0, none⟩) n cL, .map (some bM), .slice (some ⟨gF, 0, none⟩) m cF] 89)) := by
  subst hn hm
  exact ⟨WZ.heap.size, bM, gL, gF, cL, cF, rfl, ⟨hb.size, b3, b1, b2⟩, ⟨heap_alloc_new WZ _, hM.al _, hL.al _, hF.al _, hne⟩, hb.alloc hb.size _⟩
set_option maxRecDepth 100000 in
set_option maxHeartbeats 4000000 in
theorem copy_calls {w : World} {S BM L F cl cf n m : Nat} {cur fst : List VarD} (h : IsStore w S BM L F cl cf cur fst) (hn : n = cur.length) (hm : m = fst.length) (h0 : 0 < n) (h1 : 0 < m) (hf : n ≤ 1000) (hf2 : m ≤ 1000) :
    Calls Tryz.prog 19 #[.pointer (some ⟨S, 0, none⟩)] w fun e w' => ∃ S2 BM2 L2 F2 cl2 cf2, e = .returned (.pointer (some ⟨S2, 0, none⟩)) ∧ (w.heap.size ≤ S2 ∧ w.heap.size ≤ BM2 ∧ w.heap.size ≤ L2 ∧ w.heap.size ≤ F2) ∧ IsStore w' S2 BM2 L2 F2 cl2 cf2 cur fst ∧ Below w.heap.size w w' := by
  have c0 : w.cell? ⟨S, 0, none⟩ = some (.slice (some ⟨L, 0, none⟩) n cl) := by rw [hn]; exact h.c0
  have c1 := h.c1
  have c2 : w.cell? ⟨S, 2, none⟩ = some (.slice (some ⟨F, 0, none⟩) m cf) := by rw [hm]; exact h.c2
  have HN := Lib.hid hn
  have HM := Lib.hid hm
  have HS := Lib.hid h
  clear h hn hm
  go_enter Tryz.func19, Tryz.ntmps19
  go_wp2_with (go_at_call 38; (with_reducible refine (none_calls _ (.int .i64 0) (.int .i64 0) _ _ c1).mono ?_); rintro e w' ⟨rfl, rfl⟩)
  go_region_held3 (fun w' => w'.cell? ⟨S, 0, none⟩ = some (.slice (some ⟨L, 0, none⟩) n cl) ∧ w'.cell? ⟨S, 1, none⟩ = some (.map (some BM)) ∧ w'.cell? ⟨S, 2, none⟩ = some (.slice (some ⟨F, 0, none⟩) m cf) ∧ IsStore w' S BM L F cl cf cur fst)
    (first
      | exact ⟨c0, c1, c2, HS.out⟩
      | exact keepS ⟨c0, c1, c2, HS.out⟩ (below_drew' w)
      | exact keepS (by assumption) (by assumption)
      | exact keepS (by assumption) ((Below.refl _ _).alloc (Nat.le_refl _) _))
    (first
      | (go_at_call 8; (with_reducible refine (clone_calls L cl n cur _ (IsStore.own (And.right (And.right (And.right (by assumption))))) h0 HN.out hf).mono ?_); rintro e wL ⟨gL, cL, rfl, hgL, hbL, hbelL⟩)
      | (go_at_call 8; (with_reducible refine (clone_calls F cf m fst _ (IsStore.fir (And.right (And.right (And.right (by assumption))))) h1 HM.out hf2).mono ?_); rintro e wF ⟨gF, cF, rfl, hgF, hbF, hbelF⟩)
      | (go_at_call 41; (with_reducible refine (mclone_is BM (cur.map (·.name)) _ (IsStore.map (And.right (And.right (And.right (by assumption))))) ).mono ?_); rintro e wM ⟨bM, rfl, hgM, hbM, hbelM⟩))
  all_goals
    go_wp2_with fail
    go_ret
    have lL := hbL.lt
    have lF := hbF.lt
    have sL := hbelL.size
    have sM := hbelM.size
    have sF := hbelF.size
    simp only [size_drew'] at hgL hgM hgF sL sM sF
    refine copy_fin (gL := gL) (gF := gF) (bM := bM) HN.out HM.out (hbL.bel ?_) (hbF.bel ?_) (hbM.bel ?_) (by omega) (by omega) (by omega) (by omega) ((below_drew' w).trans ?_)
    · (first | exact Below.refl _ _ | exact hbelM | exact hbelF | exact hbelM.trans (hbelF.mono hbelM.size) | exact hbelF.trans (hbelM.mono hbelF.size))
    · (first | exact Below.refl _ _ | exact hbelL | exact hbelM | exact hbelL.trans (hbelM.mono hbelL.size) | exact hbelM.trans (hbelL.mono hbelM.size))
    · (first | exact Below.refl _ _ | exact hbelL | exact hbelF | exact hbelL.trans (hbelF.mono hbelL.size) | exact hbelF.trans (hbelL.mono hbelF.size))
    · (first | exact (hbelL.trans (hbelM.mono hbelL.size)).trans (hbelF.mono (Nat.le_trans hbelL.size hbelM.size)) | exact (hbelL.trans (hbelF.mono hbelL.size)).trans (hbelM.mono (Nat.le_trans hbelL.size hbelF.size)) | exact (hbelM.trans (hbelL.mono hbelM.size)).trans (hbelF.mono (Nat.le_trans hbelM.size hbelL.size)) | exact (hbelM.trans (hbelF.mono hbelM.size)).trans (hbelL.mono (Nat.le_trans hbelM.size hbelF.size)) | exact (hbelF.trans (hbelL.mono hbelF.size)).trans (hbelM.mono (Nat.le_trans hbelF.size hbelL.size)) | exact (hbelF.trans (hbelM.mono hbelF.size)).trans (hbelL.mono (Nat.le_trans hbelF.size hbelM.size)))
end Go.Proofs.YtaognphegancbaaGreatDoor
