/- append onto a row of floats of the call's own. -/
import Derived.Test.YtompdlhhfpjebaaSumsA
namespace Go.Proofs.Ytompdlhhfpjebaa
set_option linter.unusedVariables false
open Go.RowKit
open Fl (nanB canon qnan sg rg negW)
def fl (xs : List Nat) : List Value := xs.map (Value.float .f64)
theorem fl_append (xs ys : List Nat) : fl (xs ++ ys) = fl xs ++ fl ys := by unfold fl; rw [List.map_append]
theorem fl_len (xs : List Nat) : (fl xs).length = xs.length := by unfold fl; rw [List.length_map]
theorem fl_one (xs : List Nat) : ∀ u ∈ fl xs, u.oneCell' = true := by
  intro u hu; unfold fl at hu; obtain ⟨x, _, rfl⟩ := List.mem_map.1 hu; rfl
theorem fl_get {xs : List Nat} {j : Nat} {u : Value} (h : (fl xs)[j]? = some u) : ∃ x, xs[j]? = some x ∧ u = .float .f64 x := by
  unfold fl at h
  rw [List.getElem?_map] at h
  cases hx : xs[j]? with
  | none => rw [hx] at h; cases h
  | some x => rw [hx] at h; exact ⟨x, rfl, by cases h; rfl⟩
theorem flt_info : (Try.prog.info? 24).map (fun i => (i.zero, i.size, i.bytes)) = some (some (.float .f64 0), 1, 8) := by kernel_rfl
/-- The call owns a slice value v that holds the floats xs. -/
def OwnF (w : World) (base : Nat) (v : Value) (xs : List Nat) : Prop := w.ownsRow base 24 1 v xs.length (fl xs)
theorem OwnF.nil (w : World) (base : Nat) : OwnF w base (.slice none 0 0) [] := World.ownsRow_nil w base _ _
theorem OwnF.form {w : World} {base : Nat} {v : Value} {xs : List Nat} (h : OwnF w base v xs) : ∃ A c, v = .slice A xs.length c ∧ (A = none → c = 0 ∧ xs = []) ∧ RF w A xs.length xs ∧ (∀ g, v.ownBlock = some g → base ≤ g ∧ g < w.heap.size) ∧ xs.length ≤ c := by
  obtain ⟨h1, h2⟩ := h
  rcases h2 with ⟨rfl, h0⟩ | ⟨g, cap, cur, rfl, hb, hg, hc, hm, hs, ht⟩
  · have hx : xs = [] := List.eq_nil_of_length_eq_zero h0
    subst hx
    exact ⟨none, 0, rfl, fun _ => ⟨rfl, rfl⟩, ⟨rfl, fun h => absurd h (by simp)⟩, fun g hg => (by cases hg), (by simp)⟩
  · refine ⟨some ⟨g, 0, none⟩, cap, rfl, (nofun), ⟨rfl, fun _ => ⟨_, rfl, fun j u hu => ?_⟩⟩, fun g' hg' => ?_, hc⟩
    · have hj : (fl xs)[j]? = some (.float .f64 u) := by unfold fl; rw [List.getElem?_map, hu]; rfl
      have hlt : j < xs.length := by
        rcases Nat.lt_or_ge j xs.length with h | h
        · exact h
        · rw [List.getElem?_eq_none h] at hu; cases hu
      rw [← ht, List.getElem?_take, if_pos (by omega)] at hj
      have hadd : (⟨g, 0, none⟩ : Addr).add j = ⟨g, j, none⟩ := by unfold Addr.add; split <;> simp_all
      rw [hadd, cell_of_row w g j cur _ _ hg]
      simpa using hj
    · simp only [Value.ownBlock, Option.some.injEq] at hg'
      subst hg'
      refine ⟨hb, ?_⟩
      rcases Nat.lt_or_ge g w.heap.size with h | h
      · exact h
      · rw [Array.getElem?_eq_none h] at hg; cases hg
theorem OwnF.keep {w w' : World} {base : Nat} {v : Value} {xs : List Nat} (h : OwnF w base v xs) (hk : ∀ g, g < w.heap.size → v.ownBlock = some g → w'.heap[g]? = w.heap[g]?) : OwnF w' base v xs := by
  obtain ⟨h1, h2⟩ := h
  refine ⟨h1, ?_⟩
  rcases h2 with h2 | ⟨g, cap, cur, rfl, hb, hg, hr⟩
  · exact .inl h2
  · refine .inr ⟨g, cap, cur, rfl, hb, ?_, hr⟩
    have hlt : g < w.heap.size := by
      rcases Nat.lt_or_ge g w.heap.size with h | h
      · exact h
      · rw [Array.getElem?_eq_none h] at hg; cases hg
    rw [hk g hlt rfl]; exact hg
theorem grown_block {w w' : World} (h : Grown w w') (g : Nat) (hg : g < w.heap.size) : w'.heap[g]? = w.heap[g]? := by
  obtain ⟨⟨_, _, hk⟩, _, hs⟩ := h
  have hb := hk g hg
  have hA : ∃ o, w.heap[g]? = some o := ⟨_, Array.getElem?_eq_getElem hg⟩
  obtain ⟨o, hA⟩ := hA
  have hB : ∃ o, w'.heap[g]? = some o := ⟨_, Array.getElem?_eq_getElem (by omega)⟩
  obtain ⟨o', hB⟩ := hB
  rw [hA, hB] at hb ⊢
  cases o <;> cases o' <;> simp at hb ⊢ <;> try exact hb
  rename_i c t fr c' t' fr'
  obtain ⟨h1, h2, h3, h4⟩ := hb
  refine ⟨?_, h1, h2⟩
  apply Array.ext_getElem?
  exact h4
theorem OwnF.grown {w w' : World} {base : Nat} {v : Value} {xs : List Nat} (h : OwnF w base v xs) (hg : Grown w w') : OwnF w' base v xs :=
  h.keep fun g hlt _ => grown_block hg g hlt
theorem app_run {w : World} {base : Nat} {v : Value} {xs : List Nat} (hown : OwnF w base v xs) {A : Option Addr} {m c : Nat} {ys : List Nat} (hr : RF w A m ys) (hc : A = none → c = 0)
    (hb : xs.length + m ≤ 1000) (hbase : base ≤ w.heap.size) (ty : TypeId) :
    ∃ v' w', (Builtin.append_ #[45, 45] ty #[v, .slice A m c]).run Try.prog w = .ok v' w' ∧ OwnF w' base v' (xs ++ ys) ∧ w.grownBy w' v.ownBlock ∧ (v'.ownBlock = v.ownBlock ∨ v'.ownBlock = some w.heap.size) := by
  obtain ⟨i0, hi, hz0, hz1, hz2⟩ := info_parts flt_info
  cases A with
  | none =>
    have hm : m = 0 := by
      rcases Nat.eq_zero_or_pos m with h | h
      · exact h
      · obtain ⟨ad, h, _⟩ := hr.2 h; cases h
    have hy : ys = [] := List.eq_nil_of_length_eq_zero (by rw [← hr.1, hm])
    have hc0 := hc rfl
    subst hm hy hc0
    exact ⟨v, w, run_append_owned_none (P := Try.prog) (w := w) base _ ty _ i0 1 Try.underlying45 hi v _ _ hown, by rw [List.append_nil]; exact hown, World.grownBy.refl w _, .inl rfl⟩
  | some ad =>
    have hcells : ∀ j u, (fl ys)[j]? = some u → w.cell? (ad.add j) = some u := by
      intro j u hu
      obtain ⟨x, hx, rfl⟩ := fl_get hu
      have hj : j < ys.length := by
        rcases Nat.lt_or_ge j ys.length with h | h
        · exact h
        · rw [List.getElem?_eq_none h] at hx; cases hx
      obtain ⟨ad', e, h⟩ := hr.2 (by rw [hr.1]; omega)
      cases e
      exact h j x hx
    obtain ⟨v', w', hrun, h2, h3, _, h5⟩ := run_append_own_at (P := Try.prog) w base 45 ty 24 i0 (.float .f64 0) 1 8 Try.underlying45 hi hz0 hz1 hz2 rfl (by omega) v _ _ hown ad m c (fl ys)
      (by rw [fl_len, hr.1]; omega) hcells (fl_one ys) (by simp only [maxLen]; omega) (by omega) hbase
    refine ⟨v', w', hrun, ?_, h3, h5⟩
    unfold OwnF
    rw [List.length_append, fl_append, ← hr.1]
    exact h2
/-- The operation 'append' at a plain step, and in a region that draws its order. -/
theorem wp_app {o : Oper} {a : Act} {w : World} {K : Act → World → Prop} {Q : Exit → Act → World → Prop} (s x : Operand)
    (ho : o.op = .call { callee := .builtin .append, args := #[s, x], argTypes := #[45, 45] })
    {base : Nat} {v : Value} {xs : List Nat} (hs : a.eval s = v) (hown : OwnF w base v xs) {A : Option Addr} {m c : Nat} {ys : List Nat} (hx : a.eval x = .slice A m c) (hr : RF w A m ys) (hc : A = none → c = 0)
    (hb : xs.length + m ≤ 1000) (hbase : base ≤ w.heap.size)
    (h : ∀ v' w', OwnF w' base v' (xs ++ ys) → w.grownBy w' v.ownBlock → (v'.ownBlock = v.ownBlock ∨ v'.ownBlock = some w.heap.size) → K (a.put o.dst v') w') : o.wp Try.prog a w K Q := by
  obtain ⟨v', w', hrun, h2, h3, h4⟩ := app_run hown hr hc hb hbase o.type
  unfold Oper.wp execOp
  simp only [ho, resolve, invoke, builtin, Sem.run_bind, Sem.run_pure, Result.andThen_ok, List.map_toArray, List.map_cons, List.map_nil, hs, hx, hrun]
  exact h v' w' h2 h3 h4
theorem wpList_app {ops : Array Oper} {rest : List Oper} {o : Oper} {a : Act} {w : World} {Q : Exit → Act → World → Prop} (hgd : o.guard = none) (s x : Operand)
    (ho : o.op = .call { callee := .builtin .append, args := #[s, x], argTypes := #[45, 45] })
    {base : Nat} {v : Value} {xs : List Nat} (hs : a.eval s = v) (hown : OwnF w base v xs) {A : Option Addr} {m c : Nat} {ys : List Nat} (hx : a.eval x = .slice A m c) (hr : RF w A m ys) (hc : A = none → c = 0)
    (hb : xs.length + m ≤ 1000) (hbase : base ≤ w.heap.size)
    (h : ∀ v' w', OwnF w' base v' (xs ++ ys) → w.grownBy w' v.ownBlock → (v'.ownBlock = v.ownBlock ∨ v'.ownBlock = some w.heap.size) → wpList Try.prog ops Q rest (a.put o.dst v') w') : wpList Try.prog ops Q (o :: rest) a w :=
  wpList_plain hgd fun _ hK => wp_app s x ho hs hown hx hr hc hb hbase fun v' w' h2 h3 h4 => hK _ _ (h v' w' h2 h3 h4)
theorem step_app {ops : Array Oper} {o : Oper} {a : Act} {w : World} {K : Act → World → Prop} {Q : Exit → Act → World → Prop} {E : Prop} (hgd : o.guard = none) (s x : Operand)
    (ho : o.op = .call { callee := .builtin .append, args := #[s, x], argTypes := #[45, 45] })
    {base : Nat} {v : Value} {xs : List Nat} (hs : a.eval s = v) (hown : OwnF w base v xs) {A : Option Addr} {m c : Nat} {ys : List Nat} (hx : a.eval x = .slice A m c) (hr : RF w A m ys) (hc : A = none → c = 0)
    (hb : xs.length + m ≤ 1000) (hbase : base ≤ w.heap.size)
    (h : ∀ v' w', OwnF w' base v' (xs ++ ys) → w.grownBy w' v.ownBlock → (v'.ownBlock = v.ownBlock ∨ v'.ownBlock = some w.heap.size) → K (a.put o.dst v') w') :
    if Region.wanted o (yielded ops a.tmps) = true then Oper.wp Try.prog o a w K Q else E := by
  have hw : Region.wanted o (yielded ops a.tmps) = true := by simp [Region.wanted, hgd]
  rw [if_pos hw]
  exact wp_app s x ho hs hown hx hr hc hb hbase h
/-- Memory kept below a block: what the row's proof asks behind the call. -/
structure KB (B : Nat) (w w' : World) : Prop where
  os : w'.os = w.os
  output : w'.output = w.output
  size : w.heap.size ≤ w'.heap.size
  block : ∀ k, k < B → w'.heap[k]? = w.heap[k]?
theorem KB.refl (B : Nat) (w : World) : KB B w w := ⟨rfl, rfl, Nat.le_refl _, fun _ _ => rfl⟩
theorem KB.trans {B : Nat} {a b c : World} (h : KB B a b) (k : KB B b c) : KB B a c :=
  ⟨k.os.trans h.os, k.output.trans h.output, Nat.le_trans h.size k.size, fun i hi => (k.block i hi).trans (h.block i hi)⟩
theorem KB.ofGrown {B : Nat} {w w' : World} (h : Grown w w') (hB : B ≤ w.heap.size) : KB B w w' :=
  ⟨h.1.1, h.1.2.1, h.2.2, fun k hk => grown_block h k (by omega)⟩
theorem KB.ofBy {B : Nat} {w w' : World} {row : Option Nat} (h : w.grownBy w' row) (hB : B ≤ w.heap.size) (hr : ∀ k, row = some k → B ≤ k) : KB B w w' :=
  ⟨h.os, h.output, h.size, fun k hk => h.block k (by omega) (fun e => by have := hr k e.symm; omega)⟩
theorem KB.alloc {B : Nat} {a w : World} (h : KB B a w) (hB : B ≤ w.heap.size) (o : Obj) : KB B a (w.alloc o) :=
  h.trans ⟨rfl, rfl, by simp, fun k hk => Below.heap_alloc _ _ _ (by omega)⟩
theorem KB.drew {B : Nat} {a w : World} (h : KB B a w) : KB B a w.drew := ⟨h.os, h.output, h.size, h.block⟩
theorem KB.frame {W w' : World} (h : KB W.heap.size W w') (may : MemPlace → Prop) : W.keptBut w' may := by
  refine ⟨h.os, h.output, fun i hi => ?_⟩
  rw [h.block i hi]
  split <;> simp_all
theorem KB.same {W w' : World} (h : KB W.heap.size W w') {p : MemPlace} (hp : p.block < W.heap.size) : W.sameAt w' p := by
  cases p with
  | cell b o => exact World.cell?_of_block (w := W) (h.block b hp)
  | map b => exact h.block b hp
theorem KB.trod {H : Type} {enc : TypeId × Value → H} {P : Program} {t : TypeId} (hl : laidOutB P = true) (hr : P.readableRec t = true) (hrow : t < P.types.size) {W W' : World} {v : Value} {d : DataW H} {ps : List MemPlace}
    (h : DataW.Trod enc P W 0 (fun _ => true) true t v d ps) (hb : KB W.heap.size W W') (hlt : ∀ x ∈ ps, x.block < W.heap.size) :
    DataW.Trod enc P W' 0 (fun b => decide (b < W.heap.size)) true t v d ps :=
  WideElems.Trod_stays hl hr hrow h (fun x hx => hb.same (hlt x hx)) (fun x hx => by simpa using hlt x hx)
end Go.Proofs.Ytompdlhhfpjebaa
