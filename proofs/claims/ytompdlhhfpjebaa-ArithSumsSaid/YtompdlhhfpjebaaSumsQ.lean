/- Rows of floats under way; Least at any list; what the walk of ArithSums asks. -/
import Derived.Test.YtompdlhhfpjebaaSumsP
import Derived.Deep.RegionLaw
import Derived.Deep.DeepCutAuto
namespace Go.Proofs.Ytompdlhhfpjebaa
set_option linter.unusedVariables false
open Go.RowKit
open Fl (nanB canon qnan sg rg negW)
/-- A slice of words that came in. -/
def RU (w : World) (A : Option Addr) (n : Nat) (xs : List Nat) : Prop :=
  n = xs.length ∧ (∀ x ∈ xs, x < 2 ^ 64) ∧ (0 < n → ∃ ad, A = some ad ∧ ad.block < w.heap.size ∧ ∀ j, j < n → w.cell? (ad.add j) = some (.int .u64 ((xs[j]?.getD 0 : Nat) : Int)))
theorem block_add (a : Addr) (n : Nat) : (a.add n).block = a.block := by unfold Addr.add; split <;> rfl
theorem RU.at_ {w wr : World} {A : Option Addr} {n k : Nat} {xs : List Nat} (h : RU w A n xs) (hk : k < n) (hb : KB w.heap.size w wr) : ∃ ad, A = some ad ∧ wr.cell? (ad.add k) = some (.int .u64 ((xs[k]?.getD 0 : Nat) : Int)) := by
  obtain ⟨ad, e, hlt, hc⟩ := h.2.2 (by omega)
  refine ⟨ad, e, ?_⟩
  rw [World.cell?_of_block (w := w) (hb.block _ (by rw [block_add]; exact hlt))]
  exact hc k hk
theorem OwnF.alloc {w : World} {base : Nat} {v : Value} {xs : List Nat} (h : OwnF w base v xs) (o : Obj) : OwnF (w.alloc o) base v xs :=
  h.keep fun g hg _ => Below.heap_alloc _ _ _ hg
theorem RF.one (w : World) (x : Nat) (t : TypeId) : RF (w.alloc (.cells #[.float .f64 x] t)) (some ⟨w.heap.size, 0, none⟩) 1 [x] := by
  refine ⟨rfl, fun _ => ⟨_, rfl, fun j u hu => ?_⟩⟩
  match j, hu with
  | 0, hu => cases hu; exact World.cell?_alloc_new _ _ _ _
  | j + 1, hu => cases hu
theorem OwnF.empty (w : World) (base : Nat) (hb : base ≤ w.heap.size) : OwnF (w.alloc (.cells #[] 24)) base (.slice (some ⟨w.heap.size, 0, none⟩) 0 0) [] :=
  ⟨rfl, .inr ⟨w.heap.size, 0, #[], rfl, hb, heap_alloc_new w _, Nat.le_refl _, Nat.zero_le _, rfl, rfl⟩⟩
theorem OwnF.by_ {w w' : World} {base : Nat} {v v2 : Value} {xs : List Nat} (h : OwnF w base v xs) (hb : w.grownBy w' v2.ownBlock) (hne : ∀ g, v.ownBlock = some g → v2.ownBlock ≠ some g) : OwnF w' base v xs :=
  h.keep fun g hg e => hb.block g hg (fun e2 => hne g e e2.symm)
theorem KB.app {B base : Nat} {a w w2 : World} {o : Obj} {v : Value} {xs : List Nat} (h : KB B a w) (hown : OwnF w base v xs) (hB : B ≤ base) (hs : B ≤ w.heap.size) (hby : (w.alloc o).grownBy w2 v.ownBlock) : KB B a w2 := by
  obtain ⟨A, c, _, _, _, hb, _⟩ := hown.form
  exact (h.alloc hs o).trans (KB.ofBy hby (by simp; omega) (fun g hg => by have := (hb g hg).1; omega))
theorem KB.app' {B base : Nat} {a w w2 : World} {v : Value} {xs : List Nat} (h : KB B a w) (hown : OwnF w base v xs) (hB : B ≤ base) (hs : B ≤ w.heap.size) (hby : w.grownBy w2 v.ownBlock) : KB B a w2 := by
  obtain ⟨A, c, _, _, _, hb, _⟩ := hown.form
  exact h.trans (KB.ofBy hby hs (fun g hg => by have := (hb g hg).1; omega))
theorem KB.grown {B : Nat} {a w w2 : World} (h : KB B a w) (hs : B ≤ w.heap.size) (hg : Grown w w2) : KB B a w2 := h.trans (KB.ofGrown hg hs)
theorem RF.kb {w w' : World} {A : Option Addr} {n : Nat} {xs : List Nat} (h : RF w A n xs) (hk : KB w.heap.size w w') : RF w' A n xs :=
  ⟨h.1, fun hn => by
    obtain ⟨ad, e, hc⟩ := h.2 hn
    exact ⟨ad, e, fun j u hu => by
      have hcj := hc j u hu
      rw [World.cell?_of_block (w := w) (hk.block _ (block_lt_of_cell hcj))]
      exact hcj⟩⟩
/-- A slice value of the call's own that is done: what is asked of it further on. -/
def Done (w : World) (v : Value) (xs : List Nat) (m : Nat) : Prop := ∃ A n c, v = .slice A n c ∧ RF w A n xs ∧ n ≤ m ∧ n ≤ c ∧ (A = none → c = 0)
theorem OwnF.done {w : World} {base : Nat} {v : Value} {xs : List Nat} (h : OwnF w base v xs) {m : Nat} (hm : xs.length ≤ m) : Done w v xs m := by
  obtain ⟨A, c, e, h1, h2, _, h3⟩ := h.form
  exact ⟨A, _, c, e, h2, hm, h3, fun hA => (h1 hA).1⟩
def lv (xs : List Nat) : Nat := if xs = [] then 0 else leastL xs
def le_ (xs : List Nat) : Int := if xs = [] then 6 else 0
theorem leastA_calls (A : Option Addr) (n c : Nat) (xs : List Nat) (w : World) (hr : RF w A n xs) (hn : n ≤ 9223372036854775807) (hx : ∀ x ∈ xs, x < 2 ^ 64) :
    Calls Try.prog 19 #[.slice A n c] w fun e w' => e = .returned (.tuple #[.float .f64 (lv xs), .int .i64 (le_ xs)]) ∧ Grown w w' := by
  by_cases h : xs = []
  · subst h
    obtain rfl : n = 0 := hr.1
    exact least_nil _ _ _
  · have h0 : 0 < n := by
      rw [hr.1]; cases xs with | nil => exact absurd rfl h | cons y ys => simp
    have := least_list_calls A n c xs w hr hn h0 hx
    simp only [lv, le_, if_neg h]
    exact this
theorem le_nil {xs : List Nat} (h : xs = []) : le_ xs = 6 := by subst h; rfl
theorem le_pos {xs : List Nat} (h : xs ≠ []) : le_ xs = 0 := if_neg h
theorem lv_lt {xs : List Nat} (hx : ∀ x ∈ xs, x < 2 ^ 64) : lv xs < 2 ^ 64 := by
  unfold lv
  split
  · decide
  · rename_i h; exact (leastL_spec xs h hx).lt
theorem lv_turn {xs ys : List Nat} (hx : ∀ x ∈ xs, x < 2 ^ 64) (hy : ∀ x ∈ ys, x < 2 ^ 64) : (canon (lv (xs ++ ys)) == canon (lv (ys ++ xs))) = true := by
  by_cases h : xs ++ ys = []
  · obtain ⟨rfl, rfl⟩ := List.append_eq_nil_iff.1 h
    simp
  · have h2 : ys ++ xs ≠ [] := fun e => h (by obtain ⟨rfl, rfl⟩ := List.append_eq_nil_iff.1 e; rfl)
    have m : ∀ x, x ∈ xs ++ ys ↔ x ∈ ys ++ xs := by intro x; simp only [List.mem_append]; exact Or.comm
    have a : ∀ x ∈ xs ++ ys, x < 2 ^ 64 := fun x hh => (List.mem_append.1 hh).elim (hx x) (hy x)
    unfold lv
    rw [if_neg h, if_neg h2]
    exact least_same (leastL_spec _ h a) (leastL_spec _ h2 fun x hh => a x ((m x).2 hh)) m
theorem lv_both {xs ys : List Nat} (hx : ∀ x ∈ xs, x < 2 ^ 64) (hy : ∀ x ∈ ys, x < 2 ^ 64) (h1 : xs ≠ []) (h2 : ys ≠ []) : (canon (lv (xs ++ ys)) == canon (opF 6 (lv xs) (lv ys))) = true := by
  have h : xs ++ ys ≠ [] := fun e => h1 (List.append_eq_nil_iff.1 e).1
  have a : ∀ x ∈ xs ++ ys, x < 2 ^ 64 := fun x hh => (List.mem_append.1 hh).elim (hx x) (hy x)
  unfold lv
  rw [if_neg h, if_neg h1, if_neg h2]
  exact least_same (leastL_spec _ h a) (least_both (leastL_spec _ h1 hx) (leastL_spec _ h2 hy)) fun x => Iff.rfl
theorem ne_of_len {xs : List Nat} {n : Nat} (h : n = xs.length) (h0 : n ≠ 0) : xs ≠ [] := by intro e; subst e; exact h0 h
theorem sumF_lt (xs : List Nat) (hx : ∀ x ∈ xs, x < 2 ^ 64) : sumF xs < 2 ^ 64 := by
  have h : ∀ (ys : List Nat) (a : Nat), a < 2 ^ 64 → (∀ y ∈ ys, y < 2 ^ 64) → ys.foldl (opF 2) a < 2 ^ 64 := by
    intro ys
    induction ys with
    | nil => intro a ha _; exact ha
    | cons y ys ih => intro a ha hy; exact ih _ (opF_lt 2 ha (hy y (by simp))) (fun z hz => hy z (by simp [hz]))
  exact h xs _ (by decide) hx
theorem RF.take {w : World} {A : Option Addr} {n m : Nat} {xs : List Nat} (h : RF w A n xs) (hm : m ≤ n) : RF w A m (xs.take m) := by
  refine ⟨by rw [List.length_take]; have := h.1; omega, fun h0 => ?_⟩
  obtain ⟨ad, e, hc⟩ := h.2 (by omega)
  refine ⟨ad, e, fun j u hu => hc j u ?_⟩
  rw [List.getElem?_take] at hu
  split at hu
  · exact hu
  · cases hu
/-- A row under way: of the call's own, made behind world z. -/
structure Own3 (z w : World) (v : Value) (xs : List Nat) : Prop where
  own : OwnF w z.heap.size v xs
  kb : KB z.heap.size z w
theorem Own3.start (z : World) : Own3 z (z.alloc (.cells #[] 24)) (.slice (some ⟨z.heap.size, 0, none⟩) 0 0) [] :=
  ⟨OwnF.empty z _ (Nat.le_refl _), (KB.refl _ _).alloc (Nat.le_refl _) _⟩
theorem Own3.rf {z w : World} {A : Option Addr} {n c : Nat} {xs : List Nat} (h : Own3 z w (.slice A n c) xs) : RF w A n xs := by
  obtain ⟨A', c', e, _, h2, _⟩ := h.own.form
  cases e; exact h2
theorem Own3.len {z w : World} {A : Option Addr} {n c : Nat} {xs : List Nat} (h : Own3 z w (.slice A n c) xs) : n = xs.length := h.rf.1
theorem Own3.next {z w w' : World} {v v' : Value} {xs ys : List Nat} (h : Own3 z w v xs) (hown : OwnF w' z.heap.size v' ys) (hby : w.grownBy w' v'.ownBlock) : Own3 z w' v' ys := by
  refine ⟨hown, h.kb.trans (KB.ofBy hby h.kb.size fun g hg => ?_)⟩
  obtain ⟨_, _, _, _, _, hb, _⟩ := hown.form
  exact (hb g hg).1
theorem Own3.by {z w w' : World} {v v' : Value} {xs ys : List Nat} (h : Own3 z w v xs) (hown : OwnF w' z.heap.size v' ys) (hby : w.grownBy w' v.ownBlock) : Own3 z w' v' ys := by
  refine ⟨hown, h.kb.trans (KB.ofBy hby h.kb.size fun g hg => ?_)⟩
  obtain ⟨_, _, _, _, _, hb, _⟩ := h.own.form
  exact (hb g hg).1
theorem RF.drew {w : World} {A : Option Addr} {n : Nat} {xs : List Nat} (h : RF w A n xs) : RF w.drew A n xs := h
theorem Own3.drew {z w : World} {v : Value} {xs : List Nat} (h : Own3 z w v xs) : Own3 z w.drew v xs := by
  refine ⟨h.own.keep fun g _ _ => rfl, h.kb.drew⟩
theorem KB.mono {A B : Nat} {w w' : World} (h : KB A w w') (hB : B ≤ A) : KB B w w' := ⟨h.os, h.output, h.size, fun k hk => h.block k (by omega)⟩
theorem step_app3 {ops : Array Oper} {o : Oper} {a : Act} {w z : World} {K : Act → World → Prop} {Q : Exit → Act → World → Prop} {E : Prop} (hgd : o.guard = none) (s x : Operand)
    (ho : o.op = .call { callee := .builtin .append, args := #[s, x], argTypes := #[45, 45] })
    {v : Value} {xs : List Nat} (hs : a.eval s = v) (h3 : Own3 z w v xs) {A : Option Addr} {m c : Nat} {ys : List Nat} (hx : a.eval x = .slice A m c) (hr : RF z A m ys) (hc : A = none → c = 0)
    (hb : xs.length + m ≤ 1000)
    (h : ∀ A' n' c' w', n' ≤ xs.length + m → Own3 z w' (.slice A' n' c') (xs ++ ys) → K (a.put o.dst (.slice A' n' c')) w') :
    if Region.wanted o (yielded ops a.tmps) = true then Oper.wp Try.prog o a w K Q else E := by
  refine step_app hgd s x ho hs h3.own hx (hr.kb h3.kb) hc hb h3.kb.size fun v' w' h1 h2 _ => ?_
  obtain ⟨A', c', rfl, _⟩ := h1.form
  exact h A' _ c' w' (by rw [List.length_append, hr.1]; omega) (h3.by h1 h2)
theorem wpList_app3 {ops : Array Oper} {rest : List Oper} {o : Oper} {a : Act} {w z : World} {Q : Exit → Act → World → Prop} (hgd : o.guard = none) (s x : Operand)
    (ho : o.op = .call { callee := .builtin .append, args := #[s, x], argTypes := #[45, 45] })
    {v : Value} {xs : List Nat} (hs : a.eval s = v) (h3 : Own3 z w v xs) {A : Option Addr} {m c : Nat} {ys : List Nat} (hx : a.eval x = .slice A m c) (hr : RF z A m ys) (hc : A = none → c = 0)
    (hb : xs.length + m ≤ 1000)
    (h : ∀ A' n' c' w', n' ≤ xs.length + m → Own3 z w' (.slice A' n' c') (xs ++ ys) → wpList Try.prog ops Q rest (a.put o.dst (.slice A' n' c')) w') : wpList Try.prog ops Q (o :: rest) a w :=
  wpList_app hgd s x ho hs h3.own hx (hr.kb h3.kb) hc hb h3.kb.size fun v' w' h1 h2 _ => by
    obtain ⟨A', c', rfl, _⟩ := h1.form
    exact h A' _ c' w' (by rw [List.length_append, hr.1]; omega) (h3.by h1 h2)
def Cutter (A : Option Addr) (n c : Nat) (s1 s2 s3 : Value) (m : Nat) : Prop := m ≤ n ∧ m ≤ 12 ∧ s1 = .slice A m c ∧ s2 = .int .i64 m ∧ s3 = .int .i64 0
def findRegion (n : Nat) : Code → Option Code
  | .region id ops d => if id = n then some (.region id ops d) else none
  | .seq a b => match findRegion n a with
    | some c => some c
    | none => findRegion n b
  | .block _ c => findRegion n c
  | .loop c => findRegion n c
  | .scope c => findRegion n c
  | .cond _ a b => match findRegion n a with
    | some c => some c
    | none => findRegion n b
  | _ => none
theorem same_t (x y : Nat) (h : (canon x == canon y) = true) (w : World) : Calls Try.prog 17 #[.float .f64 x, .float .f64 y] w fun e w' => e = .returned (.bool true) ∧ w = w' := by
  have := same_calls x y w
  rw [h] at this
  exact this
end Go.Proofs.Ytompdlhhfpjebaa
