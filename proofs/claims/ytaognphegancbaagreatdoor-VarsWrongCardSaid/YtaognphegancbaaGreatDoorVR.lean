/- vars: the region of Env that draws its order. -/
import Derived.Test.YtaognphegancbaaGreatDoorSsa
namespace Go.Proofs.YtaognphegancbaaGreatDoor
set_option linter.unusedVariables false
set_option linter.unusedSimpArgs false
open Go.RowKit Go.Maps Go.WideMaps
def findRegion (n : Nat) : Code → Option Code
  | .region id ops b => if id = n then some (.region id ops b) else none
  | .seq a b => match findRegion n a with
    | some c => some c
    | none => findRegion n b
  | .block _ c => findRegion n c
  | .loop c => findRegion n c
  | .scope c => findRegion n c
  | .cond _ a b => match findRegion n a with
    | some c => some c
    | none => findRegion n b
  | _ => none
theorem region_ssa' {P : Program} {id : Nat} {l : List Oper} {Q : Exit → Act → World → Prop} {w : World} {a : Act} (n : Nat) (hm : P.follows .mixedOrders = true) (hchk : ssaB l n = true) (A : (Nat → Value) → Act) (u : Nat → Value) (ha : a = A u)
    (hput : ∀ k, k < n → ∀ u v, (A u).put (dstAt l k) v = A (upd u k v)) (R : Nat → Value → World → Prop)
    (hmono : ∀ k v W W', R k v W → Below W.heap.size W W' → R k v W')
    (hstep : ∀ k o, k < n → l[k]? = some o → ∀ u W, Below w.heap.size w W → (∀ j, Region.waitsFor .any l.toArray k j = true → R j (u j) W) →
      Oper.wp P o (A u) W (fun a' W' => ∃ v, a' = (A u).put o.dst v ∧ R k v W' ∧ Below W.heap.size W W') Q)
    (htail : ∀ u W, Below w.heap.size w W → (∀ k, k < n → R k (u k) W) → wpList P l.toArray Q (l.drop n) (A u) W) : (Code.region id l.toArray true).wp P Q a w := by
  subst ha
  exact region_ssa n hm hchk A u hput R hmono hstep htail
theorem flt_info : (Tryz.prog.info? 33).map (fun i => (i.zero, i.size, i.bytes)) = some (some (.float .f64 0), 1, 8) := by kernel_rfl
/-- A slice of one element. -/
def One (v x : Value) (n0 : Nat) (W : World) : Prop := ∃ g c, v = .slice (some ⟨g, 0, none⟩) 1 c ∧ n0 ≤ g ∧ W.cell? ⟨g, 0, none⟩ = some x
theorem One.mono {v x : Value} {n0 : Nat} {W W' : World} (h : One v x n0 W) (hb : Below W.heap.size W W') : One v x n0 W' := by
  obtain ⟨g, c, h1, h2, h3⟩ := h
  exact ⟨g, c, h1, h2, cell_bel hb h3⟩
/-- What each operation of the region leaves. -/
def R6 (E V n0 : Nat) (name : ByteArray) (x : Nat) (k : Nat) (v : Value) (W : World) : Prop :=
  match k with
  | 0 => v = .pointer (some ⟨E, 0, none⟩)
  | 1 => v = .slice none 0 0
  | 2 => v = .pointer (some ⟨V, 0, none⟩)
  | 3 => v = .string name
  | 4 => One v (.string name) n0 W
  | 5 => One v (.string name) n0 W
  | 6 => v = .pointer (some ⟨E, 1, none⟩)
  | 7 => v = .slice none 0 0
  | 8 => v = .pointer (some ⟨V, 1, none⟩)
  | 9 => v = .pointer (some ⟨V, 3, none⟩)
  | 10 => v = .float .f64 x
  | 11 => One v (.float .f64 x) n0 W
  | 12 => One v (.float .f64 x) n0 W
  | 13 => v = .pointer (some ⟨E, 0, none⟩)
  | _ => False
theorem R6_mono (E V n0 : Nat) (name : ByteArray) (x : Nat) : ∀ k v W W', R6 E V n0 name x k v W → Below W.heap.size W W' → R6 E V n0 name x k v W' := by
  intro k v W W' h hb
  unfold R6 at h ⊢
  split at h <;> first | exact One.mono h hb | exact h
theorem set2 {W : World} {E t : Nat} {a b z v1 v2 : Value} (hb : W.heap[E]? = some (.cells #[a, b, z] t (0, 0))) : ((W.setCell ⟨E, 0, none⟩ v1).setCell ⟨E, 1, none⟩ v2).heap[E]? = some (.cells #[v1, v2, z] t (0, 0)) := by
  have hE : E < W.heap.size := (Array.getElem?_eq_some_iff.1 hb).1
  have hv := (Array.getElem?_eq_some_iff.1 hb).2
  simp [World.setCell, Array.getElem_modify, hE, hv]
theorem grown2 (W : World) (E : Nat) (v1 v2 : Value) : W.grownBy ((W.setCell ⟨E, 0, none⟩ v1).setCell ⟨E, 1, none⟩ v2) (some E) :=
  ⟨rfl, rfl, rfl, by simp [World.setCell], fun i hi hne => by rw [Below.heap_setCell _ _ _ _ (by simpa using hne), Below.heap_setCell _ _ _ _ (by simpa using hne)]⟩
noncomputable def reg6 : Code := ((Tryz.f33.body.bind (findRegion 6)).getD .skip)
set_option maxRecDepth 100000 in
set_option maxHeartbeats 4000000 in
theorem r6 (E V : Nat) (name : ByteArray) (x : Nat) (z : Value) (w : World) (p0 p1 p2 p3 p4 p6 p8 p9 p10 p11 p12 p13 p14 p15 p16 p17 p18 p19 p20 p21 p22 p23 p24 p25 p26 p27 p28 p29 p30 p31 p32 p33 p34 p35 p36 p37 : Value) (K0 : Act → World → Prop)
    (hE : Hid (w.heap[E]? = some (.cells #[.slice none 0 0, .slice none 0 0, z] 76 (0, 0)))) (v0 : w.cell? ⟨V, 0, none⟩ = some (.string name)) (v3 : w.cell? ⟨V, 3, none⟩ = some (.float .f64 x))
    (hQ : ∀ (u21 u22 u23 u24 u25 u26 u27 u28 u29 u30 u31 u32 u33 u34 u35 : Value) (w' : World), (∃ g1 c1 g2 c2, w.heap.size ≤ g1 ∧ w.heap.size ≤ g2 ∧ w'.heap[E]? = some (.cells #[.slice (some ⟨g1, 0, none⟩) 1 c1, .slice (some ⟨g2, 0, none⟩) 1 c2, z] 76 (0, 0)) ∧ w'.cell? ⟨g1, 0, none⟩ = some (.string name) ∧ w'.cell? ⟨g2, 0, none⟩ = some (.float .f64 x) ∧ w.grownBy w' (some E)) → K0 ⟨#[p0, p1, p2, p3, p4, .pointer (some ⟨E, 0, none⟩), p6, .pointer (some ⟨V, 0, none⟩), p8, p9, p10, p11, p12, p13, p14, p15, p16, p17, p18, p19, p20, u21, u22, u23, u24, u25, u26, u27, u28, u29, u30, u31, u32, u33, u34, u35, p36, p37], []⟩ w') :
    reg6.wp Tryz.prog (Exit.then K0 fun _ _ _ => False) ⟨#[p0, p1, p2, p3, p4, .pointer (some ⟨E, 0, none⟩), p6, .pointer (some ⟨V, 0, none⟩), p8, p9, p10, p11, p12, p13, p14, p15, p16, p17, p18, p19, p20, p21, p22, p23, p24, p25, p26, p27, p28, p29, p30, p31, p32, p33, p34, p35, p36, p37], []⟩ w := by
  conv => arg 2; whnf
  have HQ := Lib.hid hQ
  clear hQ
  have hEl : E < w.heap.size := (Array.getElem?_eq_some_iff.1 hE.out).1
  obtain ⟨is, his, hs0, hs1, hs2⟩ := info_parts str_info
  obtain ⟨if0, hif, hf0, hf1, hf2⟩ := info_parts flt_info
  refine region_ssa' 14 (by kernel_rfl) (by kernel_rfl) (fun u => ⟨#[p0, p1, p2, p3, p4, .pointer (some ⟨E, 0, none⟩), p6, .pointer (some ⟨V, 0, none⟩), p8, p9, p10, p11, p12, p13, p14, p15, p16, p17, p18, p19, p20, u 0, u 1, u 2, u 3, u 4, u 5, u 6, u 7, u 8, u 9, u 10, u 11, u 12, u 13, p35, p36, p37], []⟩) (fun k => (#[p21, p22, p23, p24, p25, p26, p27, p28, p29, p30, p31, p32, p33, p34] : Array Value).getD k undef) rfl ?_ (R6 E V w.heap.size name x) (R6_mono _ _ _ _ _) ?_ ?_
  · intro k hk u v
    match k, hk with
    | 0, _ => rfl
    | 1, _ => rfl
    | 2, _ => rfl
    | 3, _ => rfl
    | 4, _ => rfl
    | 5, _ => rfl
    | 6, _ => rfl
    | 7, _ => rfl
    | 8, _ => rfl
    | 9, _ => rfl
    | 10, _ => rfl
    | 11, _ => rfl
    | 12, _ => rfl
    | 13, _ => rfl
  · intro k o hk ho u W hW hd
    have e0 : W.cell? ⟨E, 0, none⟩ = some (.slice none 0 0) := by simpa using cell_of_row W E 0 _ _ _ ((hW.block E hEl).trans hE.out)
    have e1 : W.cell? ⟨E, 1, none⟩ = some (.slice none 0 0) := by simpa using cell_of_row W E 1 _ _ _ ((hW.block E hEl).trans hE.out)
    have f0 := cell_bel hW v0
    have f3 := cell_bel hW v3
    have hsz := hW.size
    match k, hk with
    | 0, _ =>
      cases ho
      go_simp
      first | exact ⟨_, rfl, rfl, Below.refl _ _⟩ | exact ⟨rfl, Below.refl _ _⟩
    | 1, _ =>
      cases ho
      have d0 : R6 E V w.heap.size name x 0 (u 0) W := hd 0 (by kernel_rfl)
      simp only [R6] at d0
      go_simp
      first | exact ⟨_, rfl, rfl, Below.refl _ _⟩ | exact ⟨rfl, Below.refl _ _⟩
    | 2, _ =>
      cases ho
      go_simp
      first | exact ⟨_, rfl, rfl, Below.refl _ _⟩ | exact ⟨rfl, Below.refl _ _⟩
    | 3, _ =>
      cases ho
      have d2 : R6 E V w.heap.size name x 2 (u 2) W := hd 2 (by kernel_rfl)
      simp only [R6] at d2
      go_simp
      first | exact ⟨_, rfl, rfl, Below.refl _ _⟩ | exact ⟨rfl, Below.refl _ _⟩
    | 4, _ =>
      cases ho
      have d3 : R6 E V w.heap.size name x 3 (u 3) W := hd 3 (by kernel_rfl)
      simp only [R6] at d3
      go_simp
      exact ⟨⟨_, _, rfl, hsz, by have := cell_one_new W (.string name) 9 0 _ rfl; rwa [add0] at this⟩, (Below.refl _ W).alloc (Nat.le_refl _) _⟩
    | 5, _ =>
      cases ho
      have d1 : R6 E V w.heap.size name x 1 (u 1) W := hd 1 (by kernel_rfl)
      simp only [R6] at d1
      have d4 : R6 E V w.heap.size name x 4 (u 4) W := hd 4 (by kernel_rfl)
      simp only [R6] at d4
      obtain ⟨g, c, hg, hgn, hgc⟩ := d4
      refine wp_append_lies (P := Tryz.prog) W (.tmp 22) (.tmp 25) 45 rfl w.heap.size 9 is (.string ⟨#[]⟩) 1 16 Tryz.underlying45 his hs0 hs1 hs2 rfl (by decide) _ 0 [] (by exact d1) (World.ownsRow_nil _ _ _ _) ⟨g, 0, none⟩ 1 c [(.string name)] (by exact hg) rfl ?_ (by simp [Value.oneCell']) (by decide) (by unfold maxLen; omega) (by omega) hsz W.heap.size rfl ?_
      · intro j v hj
        rw [add0]
        cases j with
        | zero => simp at hj; subst hj; exact hgc
        | succ j => simp at hj
      · intro g' cap W' hown hgr hat hlt
        refine ⟨_, rfl, ⟨g', cap, rfl, ?_, ?_⟩, below_by hgr (Nat.le_refl _) (by simp [Value.ownBlock])⟩
        · rcases hat with h | h
          · simp [Value.ownBlock] at h
          · omega
        · have := hown.cells rfl 0 (.string name) rfl
          rwa [add0] at this
    | 6, _ =>
      cases ho
      go_simp
      first | exact ⟨_, rfl, rfl, Below.refl _ _⟩ | exact ⟨rfl, Below.refl _ _⟩
    | 7, _ =>
      cases ho
      have d6 : R6 E V w.heap.size name x 6 (u 6) W := hd 6 (by kernel_rfl)
      simp only [R6] at d6
      go_simp
      first | exact ⟨_, rfl, rfl, Below.refl _ _⟩ | exact ⟨rfl, Below.refl _ _⟩
    | 8, _ =>
      cases ho
      go_simp
      first | exact ⟨_, rfl, rfl, Below.refl _ _⟩ | exact ⟨rfl, Below.refl _ _⟩
    | 9, _ =>
      cases ho
      have d8 : R6 E V w.heap.size name x 8 (u 8) W := hd 8 (by kernel_rfl)
      simp only [R6] at d8
      go_simp
      first | exact ⟨_, rfl, rfl, Below.refl _ _⟩ | exact ⟨rfl, Below.refl _ _⟩
    | 10, _ =>
      cases ho
      have d9 : R6 E V w.heap.size name x 9 (u 9) W := hd 9 (by kernel_rfl)
      simp only [R6] at d9
      go_simp
      first | exact ⟨_, rfl, rfl, Below.refl _ _⟩ | exact ⟨rfl, Below.refl _ _⟩
    | 11, _ =>
      cases ho
      have d10 : R6 E V w.heap.size name x 10 (u 10) W := hd 10 (by kernel_rfl)
      simp only [R6] at d10
      go_simp
      exact ⟨⟨_, _, rfl, hsz, by have := cell_one_new W (.float .f64 x) 33 0 _ rfl; rwa [add0] at this⟩, (Below.refl _ W).alloc (Nat.le_refl _) _⟩
    | 12, _ =>
      cases ho
      have d7 : R6 E V w.heap.size name x 7 (u 7) W := hd 7 (by kernel_rfl)
      simp only [R6] at d7
      have d11 : R6 E V w.heap.size name x 11 (u 11) W := hd 11 (by kernel_rfl)
      simp only [R6] at d11
      obtain ⟨g, c, hg, hgn, hgc⟩ := d11
      refine wp_append_lies (P := Tryz.prog) W (.tmp 28) (.tmp 32) 74 rfl w.heap.size 33 if0 (.float .f64 0) 1 8 Tryz.underlying74 hif hf0 hf1 hf2 rfl (by decide) _ 0 [] (by exact d7) (World.ownsRow_nil _ _ _ _) ⟨g, 0, none⟩ 1 c [(.float .f64 x)] (by exact hg) rfl ?_ (by simp [Value.oneCell']) (by decide) (by unfold maxLen; omega) (by omega) hsz W.heap.size rfl ?_
      · intro j v hj
        rw [add0]
        cases j with
        | zero => simp at hj; subst hj; exact hgc
        | succ j => simp at hj
      · intro g' cap W' hown hgr hat hlt
        refine ⟨_, rfl, ⟨g', cap, rfl, ?_, ?_⟩, below_by hgr (Nat.le_refl _) (by simp [Value.ownBlock])⟩
        · rcases hat with h | h
          · simp [Value.ownBlock] at h
          · omega
        · have := hown.cells rfl 0 (.float .f64 x) rfl
          rwa [add0] at this
    | 13, _ =>
      cases ho
      go_simp
      first | exact ⟨_, rfl, rfl, Below.refl _ _⟩ | exact ⟨rfl, Below.refl _ _⟩
  · intro u W hW hd
    have d13 : R6 E V w.heap.size name x 13 (u 13) W := hd 13 (by decide)
    have d5 : R6 E V w.heap.size name x 5 (u 5) W := hd 5 (by decide)
    have d12 : R6 E V w.heap.size name x 12 (u 12) W := hd 12 (by decide)
    obtain ⟨g1, c1, h1, hg1, hc1⟩ := d5
    obtain ⟨g2, c2, h2, hg2, hc2⟩ := d12
    simp only [R6] at d13
    have hb := (hW.block E hEl).trans hE.out
    have hgr : w.grownBy W (some E) := ⟨hW.os, hW.tape, hW.output, hW.size, fun i hi _ => hW.block i hi⟩
    clear hd
    have e0 : W.cell? ⟨E, 0, none⟩ = some (.slice none 0 0) := by simpa using cell_of_row W E 0 _ _ _ hb
    have e1 : W.cell? ⟨E, 1, none⟩ = some (.slice none 0 0) := by simpa using cell_of_row W E 1 _ _ _ hb
    have z0 : W.frozen? ⟨E, 0, none⟩ = false := frozen_of_row W E _ _ _ hb
    have z1 : W.frozen? ⟨E, 1, none⟩ = false := frozen_of_row W E _ _ _ hb
    have HB := Lib.hid hb
    have HG := Lib.hid hgr
    have HW := Lib.hid hW
    clear hb hgr hW
    simp only [List.drop_succ_cons, List.drop_zero]
    go_wp2
    have G2 := grown2 W E (.slice (some ⟨g1, 0, none⟩) 1 c1) (.slice (some ⟨g2, 0, none⟩) 1 c2)
    exact HQ.out _ _ _ _ _ _ _ _ _ _ _ _ _ _ _ _ ⟨g1, c1, g2, c2, hg1, hg2, set2 HB.out, (World.cell?_of_block (G2.block g1 (World.block_lt_of_cell? W _ hc1) (by simp; omega))).trans hc1, (World.cell?_of_block (G2.block g2 (World.block_lt_of_cell? W _ hc2) (by simp; omega))).trans hc2, HG.out.trans G2⟩
end Go.Proofs.YtaognphegancbaaGreatDoor
