/- vars: rows of variables; Get. -/
import Derived.Test.YtaognphegancbaaGreatDoorVC
import Derived.Laws.Rows
import Derived.Laws.OwnMore
import Derived.Deep.AppendLies
import Derived.Maps.AppendAt
import Derived.OwnWalk
namespace Go.Proofs.YtaognphegancbaaGreatDoor
set_option linter.unusedVariables false
set_option linter.unusedSimpArgs false
open Go.RowKit Go.Maps Go.WideMaps
open Fl (nanB canon qnan sg rg negW)
structure VarD where
  name : ByteArray
  num : Bool
  text : ByteArray
  flt : Nat
def vcells (x : VarD) : List Value := [.string x.name, .bool x.num, .string x.text, .float .f64 x.flt]
def flat (xs : List VarD) : List Value := xs.flatMap vcells
theorem flat_len (xs : List VarD) : (flat xs).length = xs.length * 4 := by
  unfold flat
  induction xs with
  | nil => rfl
  | cons x r ih => rw [List.flatMap_cons, List.length_append, ih]; simp [vcells]; omega
theorem flat_at (xs : List VarD) (i k : Nat) (x : VarD) (hx : xs[i]? = some x) (hk : k < 4) : (flat xs)[i * 4 + k]? = (vcells x)[k]? := by
  unfold flat
  induction xs generalizing i with
  | nil => simp at hx
  | cons y r ih =>
    rw [List.flatMap_cons]
    cases i with
    | zero =>
      simp at hx; subst hx
      rw [List.getElem?_append_left (by simp [vcells]; omega)]
      simp
    | succ i =>
      simp at hx
      rw [List.getElem?_append_right (by simp [vcells]; omega)]
      have : (i + 1) * 4 + k - (vcells y).length = i * 4 + k := by simp [vcells]; omega
      rw [this]
      exact ih i hx
/-- Memory from an address on holds these variables. -/
def RowV (w : World) (ad : Addr) (xs : List VarD) : Prop := ∀ (j : Nat) (u : Value), (flat xs)[j]? = some u → w.cell? (ad.add j) = some u
/-- The four cells of variable i of a row that begins at block g. -/
def At4 (w : World) (g i : Nat) (x : VarD) : Prop :=
  w.cell? ⟨g, i * 4, none⟩ = some (.string x.name) ∧ w.cell? ⟨g, i * 4 + 1, none⟩ = some (.bool x.num) ∧ w.cell? ⟨g, i * 4 + 2, none⟩ = some (.string x.text) ∧ w.cell? ⟨g, i * 4 + 3, none⟩ = some (.float .f64 x.flt)
theorem add0 (g j : Nat) : (⟨g, 0, none⟩ : Addr).add j = ⟨g, j, none⟩ := by unfold Addr.add; split <;> simp_all
theorem RowV.at4 {w : World} {g i : Nat} {xs : List VarD} (h : RowV w ⟨g, 0, none⟩ xs) (x : VarD) (hx : xs[i]? = some x) : At4 w g i x := by
  have f : ∀ k u, k < 4 → (vcells x)[k]? = some u → w.cell? ⟨g, i * 4 + k, none⟩ = some u := by
    intro k u hk hu
    have := h (i * 4 + k) u (by rw [flat_at xs i k x hx hk]; exact hu)
    rwa [add0] at this
  exact ⟨f 0 _ (by omega) rfl, f 1 _ (by omega) rfl, f 2 _ (by omega) rfl, f 3 _ (by omega) rfl⟩
theorem cell_al {w : World} {a : Addr} {v : Value} (h : w.cell? a = some v) (o : Obj) : (w.alloc o).cell? a = some v :=
  (((Below.refl w.heap.size w).alloc (Nat.le_refl _) o).cell (World.block_lt_of_cell? w a h)).trans h
theorem cell_bel {w w' : World} {a : Addr} {v : Value} (hb : Below w.heap.size w w') (h : w.cell? a = some v) : w'.cell? a = some v := (hb.cell (World.block_lt_of_cell? w a h)).trans h
theorem IsMapOf.lt {w : World} {b : Nat} {l : List ByteArray} (h : IsMapOf w b l) : b < w.heap.size := World.ownsMap.lt h
theorem IsMapOf.al {w : World} {b : Nat} {l : List ByteArray} (h : IsMapOf w b l) (o : Obj) : IsMapOf (w.alloc o) b l := h.move (Below.heap_alloc w o b h.lt)
theorem IsMapOf.bel {w w' : World} {b : Nat} {l : List ByteArray} (h : IsMapOf w b l) (hb : Below w.heap.size w w') : IsMapOf w' b l := h.move (hb.block b h.lt)
theorem get_hit (S BM L n c : Nat) (names : List ByteArray) (i : Nat) (x : VarD) (w : World) (c0 : w.cell? ⟨S, 0, none⟩ = some (.slice (some ⟨L, 0, none⟩) n c)) (c1 : w.cell? ⟨S, 1, none⟩ = some (.map (some BM))) (hm : IsMapOf w BM names)
    (hs : x.name.size ≤ maxLen) (hn : names.Nodup) (hi : names[i]? = some x.name) (hin : i < n) (hn2 : n ≤ 1000) (h4 : At4 w L i x) :
    Calls Tryz.prog 12 #[.pointer (some ⟨S, 0, none⟩), .string x.name] w fun e w' => e = .returned (.tuple #[.agg #[.bool x.num, .string x.text, .float .f64 x.flt], .bool true]) ∧ Below w.heap.size w w' := by
  obtain ⟨h0, h1, h2, h3⟩ := h4
  have hS : S < w.heap.size := World.block_lt_of_cell? w _ c0
  have hL : L < w.heap.size := World.block_lt_of_cell? w _ h0
  have HF := Lib.hid (fun w h1 h2 => find_hit S BM names i x.name w h1 h2 hs hn hi)
  have HM := Lib.hid hm
  clear hs hn hi hm
  go_enter Tryz.func12, Tryz.ntmps12
  go_wp2_with (go_at_call 37; (with_reducible refine (HF.out _ (cell_al c1 _) (HM.out.al _)).mono ?_); rintro e w' ⟨rfl, rfl⟩)
  exact bodyPost_ret (v := .tuple #[.agg #[.bool x.num, .string x.text, .float .f64 x.flt], .bool true]) (by simp [results, Tryz.results12, go_sem]) rfl ⟨rfl, (Below.refl _ _).alloc (Nat.le_refl _) _⟩
theorem get_miss (S BM : Nat) (names : List ByteArray) (s : ByteArray) (w : World) (c1 : w.cell? ⟨S, 1, none⟩ = some (.map (some BM))) (hm : IsMapOf w BM names) (hs : s.size ≤ maxLen) (hi : s ∉ names) :
    Calls Tryz.prog 12 #[.pointer (some ⟨S, 0, none⟩), .string s] w fun e w' => e = .returned (.tuple #[.agg #[.bool false, .string ⟨#[]⟩, .float .f64 0], .bool false]) ∧ Below w.heap.size w w' := by
  have hS : S < w.heap.size := World.block_lt_of_cell? w _ c1
  have HF := Lib.hid (fun w h1 h2 => find_miss S BM names s w h1 h2 hs hi)
  have HM := Lib.hid hm
  clear hs hi hm
  go_enter Tryz.func12, Tryz.ntmps12
  go_wp2_with (go_at_call 37; (with_reducible refine (HF.out _ (cell_al c1 _) (HM.out.al _)).mono ?_); rintro e w' ⟨rfl, rfl⟩)
  exact bodyPost_ret (v := .tuple #[.agg #[.bool false, .string ⟨#[]⟩, .float .f64 0], .bool false]) (by simp [results, Tryz.results12, go_sem]) rfl ⟨rfl, (Below.refl _ _).alloc (Nat.le_refl _) _⟩
end Go.Proofs.YtaognphegancbaaGreatDoor
