/- vars: blocks of variables; a store; what calls leave of it. -/
import Derived.Test.YtaognphegancbaaGreatDoorVE
namespace Go.Proofs.YtaognphegancbaaGreatDoor
set_option linter.unusedVariables false
set_option linter.unusedSimpArgs false
open Go.RowKit Go.Maps Go.WideMaps
open Fl (nanB canon qnan sg rg negW)
/-- Block g holds these variables, and has room for c. -/
def Blk (w : World) (g c : Nat) (xs : List VarD) : Prop :=
  ∃ cells : Array Value, w.heap[g]? = some (.cells cells 37 (0, 0)) ∧ xs.length ≤ c ∧ c ≤ maxLen ∧ cells.size = c * 4 ∧ cells.toList.take (xs.length * 4) = flat xs
theorem Blk.move {w w' : World} {g c : Nat} {xs : List VarD} (h : Blk w g c xs) (he : w'.heap[g]? = w.heap[g]?) : Blk w' g c xs := by
  obtain ⟨cells, hb, r⟩ := h
  exact ⟨cells, he.trans hb, r⟩
theorem Blk.lt {w : World} {g c : Nat} {xs : List VarD} (h : Blk w g c xs) : g < w.heap.size := by
  obtain ⟨cells, hb, _⟩ := h
  exact (Array.getElem?_eq_some_iff.1 hb).1
theorem Blk.row {w : World} {g c : Nat} {xs : List VarD} (h : Blk w g c xs) : w.ownsRow 0 37 4 (.slice (some ⟨g, 0, none⟩) xs.length c) xs.length (flat xs) := by
  obtain ⟨cells, hb, h1, h2, h3, h4⟩ := h
  exact ⟨flat_len xs, .inr ⟨g, c, cells, rfl, Nat.zero_le _, hb, h1, h2, h3, h4⟩⟩
theorem blk_of {w : World} {b g c n : Nat} {xs : List VarD} (h : w.ownsRow b 37 4 (.slice (some ⟨g, 0, none⟩) n c) n (flat xs)) : n = xs.length ∧ b ≤ g ∧ Blk w g c xs := by
  obtain ⟨hl, h⟩ := h
  rw [flat_len] at hl
  obtain rfl : n = xs.length := by omega
  rcases h with ⟨h, _⟩ | ⟨g', cap, cur, h, hb, hg, r⟩
  · cases h
  · cases h
    exact ⟨rfl, hb, cur, hg, r⟩
theorem Blk.rowV {w : World} {g c : Nat} {xs : List VarD} (h : Blk w g c xs) : RowV w ⟨g, 0, none⟩ xs := h.row.cells rfl
theorem Blk.at4 {w : World} {g c i : Nat} {xs : List VarD} (h : Blk w g c xs) (x : VarD) (hx : xs[i]? = some x) : At4 w g i x := h.rowV.at4 x hx
theorem Blk.frozen {w : World} {g c : Nat} {xs : List VarD} (h : Blk w g c xs) (j : Nat) : w.frozen? ⟨g, j, none⟩ = false := h.row.frozenAt j
theorem Blk.bel {w w' : World} {g c : Nat} {xs : List VarD} (h : Blk w g c xs) (hb : Below w.heap.size w w') : Blk w' g c xs := h.move (hb.block g h.lt)
theorem flat_set (xs : List VarD) (i : Nat) (x y : VarD) (hx : xs[i]? = some x) (hn : y.name = x.name) :
    (((flat xs).set (i * 4 + 1) (.bool y.num)).set (i * 4 + 2) (.string y.text)).set (i * 4 + 3) (.float .f64 y.flt) = flat (xs.set i y) := by
  unfold flat
  induction xs generalizing i with
  | nil => simp at hx
  | cons z r ih =>
    cases i with
    | zero =>
      simp at hx; subst hx
      simp [List.flatMap_cons, vcells, hn]
    | succ i =>
      simp at hx
      have e : ∀ k, (i + 1) * 4 + k = (vcells z).length + (i * 4 + k) := by intro k; simp [vcells]; omega
      simp only [List.flatMap_cons, List.set_cons_succ, e]
      rw [List.set_append_right _ _ (by omega), List.set_append_right _ _ (by omega), List.set_append_right _ _ (by omega)]
      simp only [Nat.add_sub_cancel_left]
      rw [ih i hx]
theorem setV_own {w : World} {g c i : Nat} {xs : List VarD} (h : Blk w g c xs) (x y : VarD) (hx : xs[i]? = some x) (hn : y.name = x.name) : Blk (setV w g i y.num y.text y.flt) g c (xs.set i y) ∧ w.grownBy (setV w g i y.num y.text y.flt) (some g) := by
  obtain ⟨a1, b1⟩ := h.row.stored (i * 4 + 1) (.bool y.num)
  obtain ⟨a2, b2⟩ := a1.stored (i * 4 + 2) (.string y.text)
  obtain ⟨a3, b3⟩ := a2.stored (i * 4 + 3) (.float .f64 y.flt)
  rw [flat_set xs i x y hx hn] at a3
  obtain ⟨_, _, hb⟩ := blk_of a3
  exact ⟨hb, (b1.trans b2).trans b3⟩
/-- A store: the block of its struct, its list's, its map's, and that of the first values. -/
structure IsStore (w : World) (S BM L F cl cf : Nat) (cur fst : List VarD) : Prop where
  box : w.heap[S]? = some (.cells #[.slice (some ⟨L, 0, none⟩) cur.length cl, .map (some BM), .slice (some ⟨F, 0, none⟩) fst.length cf] 89 (0, 0))
  map : IsMapOf w BM (cur.map (·.name))
  own : Blk w L cl cur
  fir : Blk w F cf fst
  ne : L ≠ F
theorem IsStore.bel {w w' : World} {S BM L F cl cf : Nat} {cur fst : List VarD} (h : IsStore w S BM L F cl cf cur fst) (hb : Below w.heap.size w w') : IsStore w' S BM L F cl cf cur fst :=
  ⟨(hb.block S (Array.getElem?_eq_some_iff.1 h.box).1).trans h.box, h.map.bel hb, h.own.bel hb, h.fir.bel hb, h.ne⟩
theorem IsStore.by_ {w w' : World} {S BM L F cl cf r : Nat} {cur fst : List VarD} (h : IsStore w S BM L F cl cf cur fst) (hb : w.grownBy w' (some r)) (h1 : r ≠ S) (h2 : r ≠ BM) (h3 : r ≠ L) (h4 : r ≠ F) : IsStore w' S BM L F cl cf cur fst :=
  ⟨(hb.block S (Array.getElem?_eq_some_iff.1 h.box).1 (by simpa using Ne.symm h1)).trans h.box, h.map.move (hb.block BM h.map.lt (by simpa using Ne.symm h2)), h.own.move (hb.block L h.own.lt (by simpa using Ne.symm h3)), h.fir.move (hb.block F h.fir.lt (by simpa using Ne.symm h4)), h.ne⟩
theorem IsStore.c0 {w : World} {S BM L F cl cf : Nat} {cur fst : List VarD} (h : IsStore w S BM L F cl cf cur fst) : w.cell? ⟨S, 0, none⟩ = some (.slice (some ⟨L, 0, none⟩) cur.length cl) := by simpa using cell_of_row w S 0 _ _ _ h.box
theorem IsStore.c1 {w : World} {S BM L F cl cf : Nat} {cur fst : List VarD} (h : IsStore w S BM L F cl cf cur fst) : w.cell? ⟨S, 1, none⟩ = some (.map (some BM)) := by simpa using cell_of_row w S 1 _ _ _ h.box
theorem IsStore.c2 {w : World} {S BM L F cl cf : Nat} {cur fst : List VarD} (h : IsStore w S BM L F cl cf cur fst) : w.cell? ⟨S, 2, none⟩ = some (.slice (some ⟨F, 0, none⟩) fst.length cf) := by simpa using cell_of_row w S 2 _ _ _ h.box
theorem IsStore.neS {w : World} {S BM L F cl cf : Nat} {cur fst : List VarD} (h : IsStore w S BM L F cl cf cur fst) : S ≠ L ∧ S ≠ F ∧ BM ≠ L ∧ BM ≠ F ∧ S ≠ BM := by
  obtain ⟨c1, b1, _⟩ := h.own
  obtain ⟨c2, b2, _⟩ := h.fir
  obtain ⟨es, ck, b3, _⟩ := h.map
  have b0 := h.box
  refine ⟨?_, ?_, ?_, ?_, ?_⟩
  · rintro rfl; rw [b1] at b0; cases b0
  · rintro rfl; rw [b2] at b0; cases b0
  · rintro rfl; rw [b1] at b3; cases b3
  · rintro rfl; rw [b2] at b3; cases b3
  · rintro rfl; rw [b3] at b0; cases b0
/-- Names are names, each once. -/
structure Named (xs : List VarD) : Prop where
  nd : (xs.map (·.name)).Nodup
  size : ∀ x ∈ xs, x.name.size ≤ 1000
  few : xs.length ≤ 1000
theorem Named.le {xs : List VarD} (h : Named xs) {x : VarD} (hx : x ∈ xs) : x.name.size ≤ maxLen := by have := h.size x hx; simp only [maxLen]; omega
theorem names_at {xs : List VarD} {i : Nat} {x : VarD} (h : xs[i]? = some x) : (xs.map (·.name))[i]? = some x.name := by rw [List.getElem?_map, h]; rfl
theorem names_set {xs : List VarD} {i : Nat} {x y : VarD} (h : xs[i]? = some x) (hn : y.name = x.name) : (xs.set i y).map (·.name) = xs.map (·.name) := by
  apply List.ext_getElem?
  intro j
  rw [List.getElem?_map, List.getElem?_map, List.getElem?_set]
  split
  · rename_i e
    subst e
    split
    · rw [h]; simp [hn]
    · rw [h]
      rename_i e2
      exact absurd (List.getElem?_eq_some_iff.1 h).1 e2
  · rfl
theorem get_store {w : World} {S BM L F cl cf : Nat} {cur fst : List VarD} (h : IsStore w S BM L F cl cf cur fst) (hn : Named cur) (i : Nat) (x : VarD) (hx : cur[i]? = some x) :
    Calls Tryz.prog 12 #[.pointer (some ⟨S, 0, none⟩), .string x.name] w fun e w' => e = .returned (.tuple #[.agg #[.bool x.num, .string x.text, .float .f64 x.flt], .bool true]) ∧ Below w.heap.size w w' :=
  get_hit S BM L cur.length cl _ i x w h.c0 h.c1 h.map (hn.le (List.mem_of_getElem? hx)) hn.nd (names_at hx) (List.getElem?_eq_some_iff.1 hx).1 hn.few (h.own.at4 x hx)
/-- Set at a variable that there is, with a right value of its kind. -/
theorem set_store {w : World} {S BM L F cl cf : Nat} {cur fst : List VarD} (h : IsStore w S BM L F cl cf cur fst) (hn : Named cur) (i : Nat) (x : VarD) (hx : cur[i]? = some x) (t : ByteArray) (f : Nat) (hr : rightB x.num t f = true) :
    Calls Tryz.prog 10 #[.pointer (some ⟨S, 0, none⟩), .string x.name, .agg #[.bool x.num, .string t, .float .f64 f]] w fun e w' => e = .returned (.int .i64 0) ∧ IsStore w' S BM L F cl cf (cur.set i ⟨x.name, x.num, t, f⟩) fst ∧ w.grownBy w' (some L) :=
  (set_ok S BM L cur.length cl _ i x t f w h.c0 h.c1 h.map (hn.le (List.mem_of_getElem? hx)) hn.nd (names_at hx) (List.getElem?_eq_some_iff.1 hx).1 hn.few (h.own.at4 x hx) h.own.frozen hr).mono fun e w' ⟨he, w1, hb, hw⟩ => by
    subst hw
    have h1 := h.bel hb
    obtain ⟨n1, n2, n3, n4, n5⟩ := h1.neS
    obtain ⟨a, b⟩ := setV_own h1.own x ⟨x.name, x.num, t, f⟩ hx rfl
    refine ⟨he, ⟨?_, ?_, a, ?_, h1.ne⟩, ?_⟩
    · rw [List.length_set]
      exact (b.block S (Array.getElem?_eq_some_iff.1 h1.box).1 (by simpa using n1)).trans h1.box
    · rw [names_set (y := ⟨x.name, x.num, t, f⟩) hx rfl]
      exact h1.map.move (b.block BM h1.map.lt (by simpa using n3))
    · exact h1.fir.move (b.block F h1.fir.lt (by simpa using Ne.symm h1.ne))
    · exact World.grownBy.trans ⟨hb.os, hb.tape, hb.output, hb.size, fun i hi _ => hb.block i hi⟩ b
end Go.Proofs.YtaognphegancbaaGreatDoor
