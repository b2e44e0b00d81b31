/- vars: none, find: a store's map. -/
import Derived.Test.YtaognphegancbaaGreatDoorG
import Derived.Maps.OwnSet
import Derived.WalkSpells
import Derived.BigGuardPart
namespace Go.Proofs.YtaognphegancbaaGreatDoor
set_option linter.unusedVariables false
set_option linter.unusedSimpArgs false
open Go.RowKit Go.Maps
open Fl (nanB canon qnan sg rg negW)
/-- The map from names to their places. -/
def keyL (s : ByteArray) : Lit := .string s.data.toList
def mapFrom (i : Nat) : List ByteArray → DataW Unit → DataW Unit
  | [], D => D
  | s :: r, D => mapFrom (i + 1) r (D.put (keyL s) (.lit (.int .i64 (i : Int))))
def mapOf (l : List ByteArray) : DataW Unit := mapFrom 0 l (.map [])
theorem mapFrom_snoc (l : List ByteArray) (s : ByteArray) : ∀ i D, mapFrom i (l ++ [s]) D = (mapFrom i l D).put (keyL s) (.lit (.int .i64 ((i + l.length : Nat) : Int))) := by
  induction l with
  | nil => intro i D; rfl
  | cons x r ih =>
    intro i D
    show mapFrom (i + 1) (r ++ [s]) _ = _
    rw [ih (i + 1)]
    simp only [List.length_cons, mapFrom]
    congr 4; omega
theorem mapOf_snoc (l : List ByteArray) (s : ByteArray) : mapOf (l ++ [s]) = (mapOf l).put (keyL s) (.lit (.int .i64 (l.length : Int))) := by
  unfold mapOf; rw [mapFrom_snoc]; simp
theorem keyL_ne {s t : ByteArray} (h : s ≠ t) : keyL s ≠ keyL t := by
  intro e
  apply h
  unfold keyL at e
  injection e with e
  exact ByteArray.ext (Array.ext' e)
theorem isMap_from (l : List ByteArray) : ∀ i D, IsMap D → IsMap (mapFrom i l D) := by
  induction l with
  | nil => intro i D h; exact h
  | cons x r ih => intro i D h; exact ih _ _ (h.put _ _)
theorem isMap_of (l : List ByteArray) : IsMap (mapOf l) := isMap_from l 0 _ isMap_empty
theorem keyL_is (s : ByteArray) : WideAt.IsKeyLit (keyL s) := trivial
theorem snoc_ind {α : Type} {P : List α → Prop} (h0 : P []) (hs : ∀ l x, P l → P (l ++ [x])) (l : List α) : P l := by
  rw [← List.reverse_reverse l]
  induction l.reverse with
  | nil => exact h0
  | cons x r ih => rw [List.reverse_cons]; exact hs _ _ ih
theorem mapOf_hit (s : ByteArray) (l : List ByteArray) : s ∈ l → Maps.has (mapOf l) (keyL s) = true := by
  induction l using snoc_ind with
  | h0 => intro h; cases h
  | hs l x ih =>
    intro h
    rw [mapOf_snoc]
    by_cases e : s = x
    · subst e
      exact has_put_same (isMap_of l) (keyL_is _) _
    · rw [has_put_other (keyL_ne e)]
      exact ih ((List.mem_append.1 h).resolve_right (by simpa using e))
theorem mapOf_miss (s : ByteArray) (l : List ByteArray) : s ∉ l → Maps.has (mapOf l) (keyL s) = false := by
  induction l using snoc_ind with
  | h0 => intro _; rfl
  | hs l x ih =>
    intro h
    simp only [List.mem_append, List.mem_singleton, not_or] at h
    rw [mapOf_snoc, has_put_other (keyL_ne h.2)]
    exact ih h.1
theorem mapOf_at (i : Nat) (s : ByteArray) (z : DataW Unit) (l : List ByteArray) : l.Nodup → l[i]? = some s → (mapOf l).atKey (keyL s) z = .lit (.int .i64 (i : Int)) := by
  induction l using snoc_ind with
  | h0 => intro _ h; simp at h
  | hs l x ih =>
    intro hn h
    rw [List.nodup_append] at hn
    obtain ⟨h1, _, h3⟩ := hn
    rw [mapOf_snoc]
    by_cases hi : i < l.length
    · rw [List.getElem?_append_left hi] at h
      have hne : s ≠ x := h3 s (List.mem_of_getElem? h) x (by simp)
      rw [atKey_put_other (keyL_ne hne)]
      exact ih h1 h
    · have hi2 : i = l.length := by
        have := (List.getElem?_eq_some_iff.1 h).1
        simp at this; omega
      subst hi2
      simp at h
      subst h
      rw [atKey_put_same (isMap_of l) (keyL_is _)]
theorem strK : Keyed Tryz.prog 9 := string_keyed Tryz.underlying9
theorem zeroInt (w : World) : (zeroValue 3).run Tryz.prog w = .ok (.int .i64 0) w := by kernel_rfl
/-- The block of a map from names to places. -/
def IsMapOf (w : World) (b : Nat) (l : List ByteArray) : Prop := w.ownsMap Tryz.prog 9 (plainElem Tryz.prog 3) b l.length (mapOf l)
theorem IsMapOf.move {w w' : World} {b : Nat} {l : List ByteArray} (h : IsMapOf w b l) (he : w'.heap[b]? = w.heap[b]?) : IsMapOf w' b l := by
  obtain ⟨es, clock, hb, r⟩ := h
  exact ⟨es, clock, he.trans hb, r⟩
theorem none_calls (S : Nat) (lv fv : Value) (BM : Nat) (w : World) (c1 : w.cell? ⟨S, 1, none⟩ = some (.map (some BM))) :
    Calls Tryz.prog 38 #[.pointer (some ⟨S, 0, none⟩)] w fun e w' => e = .returned (.bool false) ∧ w = w' := by
  have hm := fun w r => run_eql_map_nil (P := Tryz.prog) w 85 9 3 r Tryz.underlying85
  go_enter Tryz.func38, Tryz.ntmps38
  go_wp2
  go_ret
  exact ⟨rfl, rfl⟩
end Go.Proofs.YtaognphegancbaaGreatDoor
