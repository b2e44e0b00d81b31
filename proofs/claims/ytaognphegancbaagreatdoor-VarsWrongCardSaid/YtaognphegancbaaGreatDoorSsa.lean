/- A region that draws its order: each operation shown once, from what its own forerunners left; then the tail in the text's order. -/
import Derived.Test.YtaognphegancbaaGreatDoorVQ
import Derived.StillTail
namespace Go.Proofs.YtaognphegancbaaGreatDoor
set_option linter.unusedVariables false
set_option linter.unusedSimpArgs false
open Go.RowKit
def upd (u : Nat → Value) (k : Nat) (v : Value) : Nat → Value := fun j => if j = k then v else u j
theorem upd_same (u : Nat → Value) (k : Nat) (v : Value) : upd u k v k = v := if_pos rfl
theorem upd_ne (u : Nat → Value) {k j : Nat} (v : Value) (h : j ≠ k) : upd u k v j = u j := if_neg h
/-- Every operation of the head waits for earlier ones alone, and bears no guard. -/
def backB (l : List Oper) (n : Nat) : Bool := (List.range n).all fun j => match l[j]? with | some o => o.guard.isNone && o.after.all fun e => decide (e.on < j) | none => false
theorem backB_spec {l : List Oper} {n j : Nat} (h : backB l n = true) (hj : j < n) : ∃ o, l[j]? = some o ∧ o.guard = none ∧ ∀ e ∈ o.after, e.on < j := by
  have h1 := List.all_eq_true.1 h j (List.mem_range.2 hj)
  cases ho : l[j]? with
  | none => rw [ho] at h1; cases h1
  | some o =>
    rw [ho] at h1
    simp only [Bool.and_eq_true, Option.isNone_iff_eq_none, Array.all_eq_true_iff_forall_mem, decide_eq_true_eq] at h1
    exact ⟨o, rfl, h1.1, h1.2⟩
def ssaB (l : List Oper) (n : Nat) : Bool :=
  decide (n < l.length) && Region.sinkB .any l.toArray n && Region.chainB .any l.toArray n && backB l n && Region.seqB .any l.toArray (l.length - n) n (List.replicate n true ++ List.replicate (l.length - n) false).toArray
def dstAt (l : List Oper) (k : Nat) : Option Nat := (l[k]?).bind (·.dst)
theorem getD_app (b r : List Bool) (j : Nat) (d : Bool) (hj : j < b.length) : (b ++ r).toArray.getD j d = b[j]?.getD d := by
  simp [Array.getD_eq_getD_getElem?, List.getElem?_append_left hj]
theorem all_true_of (b : List Bool) (h : ∀ j, j < b.length → b[j]?.getD true = true) : b = List.replicate b.length true := by
  apply List.ext_getElem?
  intro j
  by_cases hj : j < b.length
  · have := h j hj
    rw [List.getElem?_eq_getElem hj] at this ⊢
    simp at this
    simp [this, hj]
  · rw [List.getElem?_eq_none (by omega), List.getElem?_eq_none (by simp; omega)]
theorem wpAny_ssa {P : Program} {l : List Oper} {Q : Exit → Act → World → Prop} {w : World} (n : Nat) (hchk : ssaB l n = true) (A : (Nat → Value) → Act)
    (hput : ∀ k, k < n → ∀ u v, (A u).put (dstAt l k) v = A (upd u k v)) (R : Nat → Value → World → Prop)
    (hmono : ∀ k v W W', R k v W → Below W.heap.size W W' → R k v W')
    (hstep : ∀ k o, k < n → l[k]? = some o → ∀ u W, Below w.heap.size w W → (∀ j, Region.waitsFor .any l.toArray k j = true → R j (u j) W) →
      Oper.wp P o (A u) W (fun a' W' => ∃ v, a' = (A u).put o.dst v ∧ R k v W' ∧ Below W.heap.size W W') Q)
    (htail : ∀ u W, Below w.heap.size w W → (∀ k, k < n → R k (u k) W) → wpList P l.toArray Q (l.drop n) (A u) W) :
    ∀ (f : Nat) (b : List Bool) (u : Nat → Value) (W : World), b.length = n → b.count false = f → HeadInv .any l.toArray n (b ++ List.replicate (l.length - n) false).toArray →
      (∀ k, k < n → b[k]?.getD false = true → R k (u k) W) → Below w.heap.size w W → wpAny P .any l.toArray Q (f + (l.length - n)) (b ++ List.replicate (l.length - n) false).toArray (A u) W := by
  simp only [ssaB, Bool.and_eq_true, decide_eq_true_eq] at hchk
  obtain ⟨⟨⟨⟨hn, hs⟩, hc⟩, hb⟩, hseq⟩ := hchk
  intro f
  induction f with
  | zero =>
    intro b u W hl hcnt inv hR hW
    have hall : ∀ j, j < b.length → b[j]?.getD true = true := by
      intro j hj
      rw [List.getElem?_eq_getElem hj]
      have := List.count_eq_zero.1 hcnt
      cases hbj : b[j] with
      | true => rfl
      | false => exact absurd (hbj ▸ List.getElem_mem hj) this
    have he : b = List.replicate n true := by rw [← hl]; exact all_true_of b hall
    subst he
    rw [Nat.zero_add]
    have hdl : (l.drop n).length = l.length - n := by simp
    have H := wpAny_of_seq (P := P) (ops := l.toArray) (md := .any) (Q' := Q) (l.drop n) n _ (A u) W (by intro j; simp [List.getElem?_drop]) (by rw [hdl]; exact hseq)
      (htail u W hW (fun k hk => hR k hk (by simp [hk])))
    rw [hdl] at H
    exact H
  | succ f ih =>
    intro b u W hl hcnt inv hR hW
    have hex : ∃ i, i < n ∧ b[i]?.getD true = false := by
      have hm : false ∈ b := by
        rw [← List.count_pos_iff]; omega
      obtain ⟨i, hi, he⟩ := List.mem_iff_getElem.1 hm
      exact ⟨i, by omega, by rw [List.getElem?_eq_getElem hi, he]; rfl⟩
    have hgt : ∀ j d, j < n → (b ++ List.replicate (l.length - n) false).toArray.getD j d = b[j]?.getD d := fun j d hj => getD_app b _ j d (by omega)
    rw [show f + 1 + (l.length - n) = (f + (l.length - n)) + 1 by omega]
    refine ⟨fun h0 => ?_, fun i hi => ?_⟩
    · exfalso
      have hall : ∀ m j, j < m → j < n → b[j]?.getD true = true := by
        intro m
        induction m with
        | zero => intro j hj; omega
        | succ m ihm =>
          intro j hj hjn
          cases hbj : b[j]?.getD true with
          | true => rfl
          | false =>
            obtain ⟨o, ho, hgd, hbk⟩ := backB_spec hb hjn
            have hr : j ∈ Region.ready .any l.toArray (b ++ List.replicate (l.length - n) false).toArray := by
              rw [mem_ready]
              refine ⟨by rw [hgt j true hjn]; exact hbj, o, by simpa using ho, fun e he _ => ?_⟩
              have h1 := hbk e he
              rw [hgt e.on false (by omega)]
              have h2 := ihm e.on (by omega) (by omega)
              rw [List.getElem?_eq_getElem (show e.on < b.length by omega)] at h2 ⊢
              exact h2
            rw [h0] at hr
            cases hr
      obtain ⟨i, hi, he⟩ := hex
      rw [hall (i + 1) i (by omega) hi] at he
      cases he
    · have hin : i < n := by
        rcases Nat.lt_or_ge i n with h | h
        · exact h
        · obtain ⟨i0, hi0, he⟩ := hex
          exact absurd hi (tail_waits hs hc (by simpa using hn) inv _ i0 rfl hi0 (by rw [hgt i0 true hi0]; exact he) i h)
      obtain ⟨hun, o, ho, hall⟩ := mem_ready.1 hi
      rw [hgt i true hin] at hun
      have ho' : l[i]? = some o := by simpa using ho
      obtain ⟨o2, ho2, hgd, hbk⟩ := backB_spec hb hin
      obtain rfl : o2 = o := Option.some.inj (ho2.symm.trans ho')
      have hset : (b ++ List.replicate (l.length - n) false).toArray.setIfInBounds i true = (b.set i true ++ List.replicate (l.length - n) false).toArray := by
        simp [List.set_append_left _ _ (show i < b.length by omega)]
      have hbi : b[i]'(by omega) = false := by
        rw [List.getElem?_eq_getElem (show i < b.length by omega)] at hun
        exact hun
      unfold wpOp
      simp only [ho]
      rw [if_pos (by simp [Region.wanted, hgd])]
      refine .inl (Oper.wp_mono ?_ (hstep i o2 hin ho' u W hW (fun j hj => ?_)))
      · rintro a' W' ⟨v, rfl, hv, hb'⟩
        have hd : o2.dst = dstAt l i := by simp [dstAt, ho']
        rw [hd, hput i hin u v, hset]
        refine ih (b.set i true) (upd u i v) W' (by simp [hl]) ?_ (by rw [← hset]; exact inv.set hi hin) (fun k hk hbk' => ?_) (hW.trans (hb'.mono hW.size))
        · rw [List.count_set (by omega), hbi]
          simp; omega
        · by_cases hki : k = i
          · subst hki; rw [upd_same]; exact hv
          · rw [upd_ne _ _ hki]
            refine hmono _ _ _ _ (hR k hk ?_) hb'
            rw [List.getElem?_set_ne (Ne.symm hki)] at hbk'
            exact hbk'
      · obtain ⟨oj, hoj, e, he, hbe, hon⟩ := Region.waitsFor_spec hj
        obtain rfl : oj = o2 := Option.some.inj (hoj.symm.trans ho)
        have h1 := hall e he hbe
        have h2 := hbk e he
        subst hon
        rw [hgt e.on false (by omega)] at h1
        exact hR e.on (by omega) h1
/-- THE LAW. -/
theorem region_ssa {P : Program} {id : Nat} {l : List Oper} {Q : Exit → Act → World → Prop} {w : World} (n : Nat) (hm : P.follows .mixedOrders = true) (hchk : ssaB l n = true) (A : (Nat → Value) → Act) (u : Nat → Value)
    (hput : ∀ k, k < n → ∀ u v, (A u).put (dstAt l k) v = A (upd u k v)) (R : Nat → Value → World → Prop)
    (hmono : ∀ k v W W', R k v W → Below W.heap.size W W' → R k v W')
    (hstep : ∀ k o, k < n → l[k]? = some o → ∀ u W, Below w.heap.size w W → (∀ j, Region.waitsFor .any l.toArray k j = true → R j (u j) W) →
      Oper.wp P o (A u) W (fun a' W' => ∃ v, a' = (A u).put o.dst v ∧ R k v W' ∧ Below W.heap.size W W') Q)
    (htail : ∀ u W, Below w.heap.size w W → (∀ k, k < n → R k (u k) W) → wpList P l.toArray Q (l.drop n) (A u) W) : (Code.region id l.toArray true).wp P Q (A u) w := by
  have hn : n < l.length := by
    simp only [ssaB, Bool.and_eq_true, decide_eq_true_eq] at hchk
    exact hchk.1.1.1.1
  refine wp_region_any hm ?_
  have hrep : Array.replicate l.toArray.size false = (List.replicate n false ++ List.replicate (l.length - n) false).toArray := by
    rw [List.replicate_append_replicate, show n + (l.length - n) = l.length by omega]
    simp
  have H := wpAny_ssa (w := w) n hchk A hput R hmono hstep htail n (List.replicate n false) u w.drew (by simp) (by simp) ?_ (fun k hk h => by simp [hk] at h) (Below.refl _ w).drew
  · rw [hrep, show l.toArray.size = n + (l.length - n) by simp; omega]
    exact H
  · rw [← hrep]
    exact ⟨by simp, fun j oj _ h => (by rw [getD_replicate_false] at h; cases h), fun t _ ht => getD_in (by simpa using ht) (getD_replicate_false _ _)⟩
end Go.Proofs.YtaognphegancbaaGreatDoor
