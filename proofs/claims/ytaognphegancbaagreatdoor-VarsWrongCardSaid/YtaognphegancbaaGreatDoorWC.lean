/- vars: VarsLast, whole. -/
import Derived.Test.YtaognphegancbaaGreatDoorWB
namespace Go.Proofs.YtaognphegancbaaGreatDoor
set_option linter.unusedVariables false
set_option linter.unusedSimpArgs false
open Go.RowKit Go.Maps Go.WideMaps
open Fl (nanB canon qnan sg rg negW)
/-- A row of steps. -/
def ActRow (w : World) (A : Option Addr) (n : Nat) : Prop := 0 < n → ∃ ad, A = some ad ∧ ∀ j, j < n → ∃ (k0 b : Nat) (t : ByteArray), (k0 < 256 ∧ t.size ≤ 9223372036854775807) ∧ w.cell? (ad.add (j * 3)) = some (.int .u8 k0) ∧ w.cell? (ad.add (j * 3 + 1)) = some (.int .u64 b) ∧ w.cell? (ad.add (j * 3 + 2)) = some (.string t)
theorem ActRow.bel {w w' : World} {A : Option Addr} {n : Nat} (h : ActRow w A n) (hb : Below w.heap.size w w') : ActRow w' A n := fun h0 => by
  obtain ⟨ad, e, hc⟩ := h h0
  exact ⟨ad, e, fun j hj => by obtain ⟨k0, b, t, h1, h2, h3, h4⟩ := hc j hj; exact ⟨k0, b, t, h1, cell_bel hb h2, cell_bel hb h3, cell_bel hb h4⟩⟩
theorem equal_rows {w : World} {b1 b2 : Nat} {v1 v2 : Value} {l : List ByteArray} (h1 : w.ownsRow b1 9 1 v1 l.length (l.map Value.string)) (n1 : v1 = .slice none 0 0 ↔ l = []) (h2 : w.ownsRow b2 9 1 v2 l.length (l.map Value.string)) (n2 : v2 = .slice none 0 0 ↔ l = []) (hl : l.length ≤ 1000) :
    Calls Tryz.prog 14 #[v1, v2] w fun e w' => e = .returned (.bool true) ∧ Below w.heap.size w w' := by
  by_cases hl0 : l = []
  · rw [n1.2 hl0, n2.2 hl0]
    exact (Tryz.slices_Equal_string_empty none none 0 0 0 w (by omega)).mono fun e w' h => ⟨by simpa using h.1, by rw [h.2]; exact Below.refl _ _⟩
  · have hp : 0 < l.length := List.length_pos_iff.2 hl0
    obtain ⟨g1, c1, e1, _⟩ := own_block h1 hp
    obtain ⟨g2, c2, e2, _⟩ := own_block h2 hp
    subst e1 e2
    have hc : ∀ {b g c : Nat}, w.ownsRow b 9 1 (.slice (some ⟨g, 0, none⟩) l.length c) l.length (l.map Value.string) → ∀ j, j < l.length → w.cell? ⟨g, 0 + j, none⟩ = some (.string (l.getD j ByteArray.empty)) := fun h j hj => by
      have := h.cells rfl j (.string (l.getD j ByteArray.empty)) (by simp [List.getElem?_eq_getElem hj, List.getD_eq_getElem?_getD])
      rw [add0] at this
      simpa using this
    refine (Tryz.slices_Equal_string g1 0 l.length c1 g2 0 l.length c2 l l w (Nat.le_refl _) (Nat.le_refl _) (by omega) (by omega) (hc h1) (hc h2)).mono fun e w' h => ?_
    obtain ⟨h, q, rfl⟩ := h
    exact ⟨by simpa using h, below_drewN (Below.refl _ _)⟩
theorem ne_store {w : World} {S BM L F cl cf g c : Nat} {cur xs ys : List VarD} (h : IsStore w S BM L F cl cf cur xs) (hg : Blk w g c ys) : g ≠ S ∧ g ≠ BM := by
  obtain ⟨c1, b1, _⟩ := hg
  obtain ⟨es, ck, b3, _⟩ := h.map
  have b0 := h.box
  refine ⟨?_, ?_⟩
  · rintro rfl; rw [b1] at b0; cases b0
  · rintro rfl; rw [b1] at b3; cases b3
/-- What holds at each round's head. -/
def LSt (wr : World) (S BM L F cl cf g cp gf c8 : Nat) (xs : List VarD) : Prop := ∃ cur, Mk 6 cur ∧ IsStore wr S BM L F cl cf cur xs ∧ Blk wr g cp cur ∧ Blk wr gf c8 xs
theorem Mk.set {cur : List VarD} (h : Mk 6 cur) (i : Nat) (x : VarD) (hx : cur[i]? = some x) (t : ByteArray) (f : Nat) (hr : rightB x.num t f = true) : Mk 6 (cur.set i ⟨x.name, x.num, t, f⟩) := by
  refine ⟨?_, fun y hy => ?_⟩
  · rw [← h.1, List.map_set]
    apply List.ext_getElem?
    intro j
    rw [List.getElem?_set]
    split
    · rename_i e
      subst e
      split
      · rw [List.getElem?_map, hx]; rfl
      · rename_i e2
        rw [List.length_map] at e2
        exact absurd (List.getElem?_eq_some_iff.1 hx).1 e2
    · rfl
  · rcases List.mem_or_eq_of_mem_set hy with hy | rfl
    · exact h.2 y hy
    · exact hr
theorem vright (n : Bool) (t : ByteArray) (b : Nat) (ht : t.size ≤ 9223372036854775807) : rightB n (vT n t) (vF n b) = true := by
  cases n
  · simp [rightB, vT, vF]
    omega
  · unfold rightB vT vF canon
    simp only [if_true]
    cases h : nanB b
    · simp [h]
    · simp
theorem chg_self (xs : List VarD) : chg (xs.zip xs) = [] := by
  unfold chg
  have : (xs.zip xs).filter (fun p => !sameV p.1 p.2) = [] := by
    rw [List.filter_eq_nil_iff]
    intro p hp
    have := List.mem_iff_getElem?.1 hp
    obtain ⟨i, hi⟩ := this
    rw [List.getElem?_zip_eq_some] at hi
    have e : p.1 = p.2 := Option.some.inj (hi.1.symm.trans hi.2)
    rw [e]
    simp [sameV, sameB_refl]
  rw [this]; rfl
theorem eqAll_self (xs : List VarD) : eqAll xs xs = true := by
  unfold eqAll
  rw [Bool.and_eq_true]
  refine ⟨by simp, ?_⟩
  rw [List.all_eq_true]
  intro p hp
  obtain ⟨i, hi⟩ := List.mem_iff_getElem?.1 hp
  rw [List.getElem?_zip_eq_some] at hi
  have e : p.1 = p.2 := Option.some.inj (hi.1.symm.trans hi.2)
  rw [e]
  simp [varEq, sameB_refl]
end Go.Proofs.YtaognphegancbaaGreatDoor
