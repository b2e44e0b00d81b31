/- vars: Made. -/
import Derived.Test.YtaognphegancbaaGreatDoorVW
namespace Go.Proofs.YtaognphegancbaaGreatDoor
set_option linter.unusedVariables false
set_option linter.unusedSimpArgs false
open Go.RowKit Go.Maps Go.WideMaps
def numN : List ByteArray := [⟨#[120]⟩, ⟨#[121]⟩, ⟨#[122, 95, 49]⟩, ⟨#[97, 98, 99, 100, 101, 102, 103, 104, 105, 106, 107, 108, 109, 110, 111, 112]⟩]
def txtN : List ByteArray := [⟨#[115]⟩, ⟨#[116]⟩]
def allN : List (ByteArray × Bool) := [(⟨#[120]⟩, true), (⟨#[121]⟩, true), (⟨#[122, 95, 49]⟩, true), (⟨#[97, 98, 99, 100, 101, 102, 103, 104, 105, 106, 107, 108, 109, 110, 111, 112]⟩, true), (⟨#[115]⟩, false), (⟨#[116]⟩, false)]
/-- The first k of the variables that Made makes. -/
def Mk (k : Nat) (xs : List VarD) : Prop := xs.map (fun x => (x.name, x.num)) = allN.take k ∧ ∀ x ∈ xs, rightB x.num x.text x.flt = true
theorem Mk.snoc {k : Nat} {xs : List VarD} {x : VarD} (h : Mk k xs) (hx : allN[k]? = some (x.name, x.num)) (hr : rightB x.num x.text x.flt = true) : Mk (k + 1) (xs ++ [x]) := by
  refine ⟨?_, ?_⟩
  · rw [List.map_append, h.1, List.take_add_one, hx]; rfl
  · intro y hy
    rcases List.mem_append.1 hy with hy | hy
    · exact h.2 y hy
    · obtain rfl : y = x := by simpa using hy
      exact hr
theorem num_at (k : Nat) (hk : k < 4) : allN[k]? = some (numN.getD k ByteArray.empty, true) := by
  match k, hk with
  | 0, _ => rfl
  | 1, _ => rfl
  | 2, _ => rfl
  | 3, _ => rfl
theorem txt_at (k : Nat) (hk : k < 2) : allN[4 + k]? = some (txtN.getD k ByteArray.empty, false) := by
  match k, hk with
  | 0, _ => rfl
  | 1, _ => rfl
theorem strs_kp {n0 E N : Nat} {w w' : World} {l : List ByteArray} (h : ∀ j, j < l.length → w.cell? ⟨N, j, none⟩ = some (.string (l.getD j ByteArray.empty))) (hk : KpE n0 E w w') (h1 : N < n0) (h2 : N ≠ E) : ∀ j, j < l.length → w'.cell? ⟨N, j, none⟩ = some (.string (l.getD j ByteArray.empty)) := fun j hj =>
  (World.cell?_of_block (hk.block N h1 h2)).trans (h j hj)
theorem four (w : World) (o1 o2 o3 o4 : Obj) : ((((w.alloc o1).alloc o2).alloc o3).alloc o4).heap[w.heap.size]? = some o1 ∧ ((((w.alloc o1).alloc o2).alloc o3).alloc o4).heap[w.heap.size + 1]? = some o2 ∧ ((((w.alloc o1).alloc o2).alloc o3).alloc o4).heap[w.heap.size + 1 + 1]? = some o3 ∧ ((((w.alloc o1).alloc o2).alloc o3).alloc o4).heap[w.heap.size + 1 + 1 + 1]? = some o4 ∧ ((((w.alloc o1).alloc o2).alloc o3).alloc o4).heap.size = w.heap.size + 4 ∧ Below w.heap.size w ((((w.alloc o1).alloc o2).alloc o3).alloc o4) := by
  have e1 := heap_alloc_new w o1
  have e2 := heap_alloc_new (w.alloc o1) o2
  have e3 := heap_alloc_new ((w.alloc o1).alloc o2) o3
  have e4 := heap_alloc_new (((w.alloc o1).alloc o2).alloc o3) o4
  simp only [World.size_alloc] at e2 e3 e4
  have k : ∀ (W : World) (o : Obj) (b : Nat) (v : Obj), b < W.heap.size → W.heap[b]? = some v → (W.alloc o).heap[b]? = some v := fun W o b v hb h => (Below.heap_alloc W o b hb).trans h
  refine ⟨k _ _ _ _ (by simp; omega) (k _ _ _ _ (by simp only [World.size_alloc]; omega) (k _ _ _ _ (by simp only [World.size_alloc]; omega) e1)), k _ _ _ _ (by simp only [World.size_alloc]; omega) (k _ _ _ _ (by simp only [World.size_alloc]; omega) e2), k _ _ _ _ (by simp only [World.size_alloc]; omega) e3, e4, by simp, ?_⟩
  exact ((((Below.refl _ w).alloc (Nat.le_refl _) _).alloc (by simp) _).alloc (by simp; omega) _).alloc (by simp; omega) _
/-- What Made has gathered at round k. -/
def MadeSt (wr : World) (E n0 k : Nat) : Prop := ∃ vs xs, wr.heap[E]? = some (.cells #[.int .i64 2, vs, .slice none 0 0] 81 (0, 0)) ∧ wr.ownsRow n0 37 4 vs k (flat xs) ∧ Mk k xs
theorem strs_row {w : World} {N t : Nat} (l : List ByteArray) (h : w.heap[N]? = some (.cells (l.map Value.string).toArray t (0, 0))) : ∀ j, j < l.length → w.cell? ⟨N, j, none⟩ = some (.string (l.getD j ByteArray.empty)) := by
  intro j hj
  rw [cell_of_row w N j _ _ _ h]
  simp [List.getElem?_eq_getElem hj, List.getD_eq_getElem?_getD]
/-- What Made gives where the input has no states. -/
def MadeR (w : World) (e : Ending) (w' : World) : Prop := ∃ g cp sb xs, e = .returned (.agg #[.int .i64 2, .slice (some ⟨g, 0, none⟩) 6 cp, .slice (some ⟨sb, 0, none⟩) 1 1]) ∧ Mk 6 xs ∧ Blk w' g cp xs ∧ w.heap.size ≤ g ∧ Below w.heap.size w w'
set_option maxRecDepth 100000 in
set_option maxHeartbeats 2000000 in
theorem made25_calls (A : Option Addr) (n c : Nat) (w : World) (hA : SmallB w A n) (hn : n ≤ maxLen) :
    Calls Tryz.prog 35 #[.agg #[.int .u8 0, .slice A n c, .slice none 0 0]] w (MadeR w) := by
  have HA := Lib.hid hA
  clear hA
  go_enter Tryz.func35, Tryz.ntmps35
  go_wp2_with (first
    | (go_at_call 57; (with_reducible refine (numbers_calls _).mono ?_); rintro e w1 ⟨rfl, rfl⟩))
  obtain ⟨b0, b1, b2, b3, hsz, hW0⟩ := four w (.cells #[.int .u8 0, .slice A n c, .slice none 0 0] 25) (.cells #[.int .i64 0, .slice none 0 0, .slice none 0 0] 81) (.cells #[.int .i64 2, .slice none 0 0, .slice none 0 0] 81) (.cells (numN.map Value.string).toArray 9)
  simp only [numN, List.map_cons, List.map_nil] at b0 b1 b2 b3 hsz hW0
  generalize hg : ((((w.alloc _).alloc _).alloc _).alloc _) = W0 at b0 b1 b2 b3 hsz hW0 ⊢
  clear hg
  have sN := strs_row numN b3
  have HSN := Lib.hid sN
  have HB0 := Lib.hid b0
  have HB1 := Lib.hid b1
  have HB2 := Lib.hid b2
  have HW0 := Lib.hid hW0
  clear b0 b1 b2 b3 sN hW0
  go_loopw [24] (fun vi wr => ∃ k : Nat, k ≤ 4 ∧ vi = .int .i64 k ∧ MadeSt wr (w.heap.size + 1 + 1) W0.heap.size k ∧ KpE W0.heap.size (w.heap.size + 1 + 1) W0 wr) (fun vi _ => 4 - (intOf vi).toNat)
  case atStart => exact ⟨0, by omega, rfl, ⟨_, [], HB2.out, World.ownsRow_nil _ _ _ _, rfl, by simp⟩, ⟨rfl, rfl, rfl, Nat.le_refl _, fun _ _ _ => rfl⟩⟩
  case round =>
    obtain ⟨k, hk, rfl, ⟨vs, xs, hE, hrow, hmk⟩, hkp⟩ := hrel
    have HE := Lib.hid hE
    have HRow := Lib.hid hrow
    have HMk := Lib.hid hmk
    have HKp := Lib.hid hkp
    have hws := hkp.size
    have cB : wr.cell? ⟨w.heap.size, 1, none⟩ = some (.slice A n c) := by simpa using cell_of_row wr _ 1 _ _ _ ((hkp.block _ (by omega) (by omega)).trans HB0.out)
    have hsN := strs_kp HSN.out hkp (by omega) (by omega)
    have HAr := Lib.hid (HA.out.bel (HW0.out.trans (hkp.bel (by omega) (by omega))))
    by_cases hlt : k < 4
    · have cN := hsN k (by simpa [numN] using hlt)
      have hxk := num_at k hlt
      have HX := Lib.hid hxk
      generalize numN.getD k ByteArray.empty = nm at cN HX
      clear hE hrow hmk hkp hsN hxk
      go_wp2_with fail
      refine wp_normal (rM6 (w.heap.size + 1 + 1) w.heap.size W0.heap.size k k nm A n c vs (.int .i64 2) (.slice none 0 0) _ xs wr _ _ _ _ _ _ _ _ _ _ _ _ _ _ _ _ _ _ _ _ _ _ _ _ _ _ _ _ _ _ _ _ _ _ _ _ _ _ _ _ _ _ _ _ _ _ _ _ _ _ _ _ _ _ _ _ _ _ _ _ _ _ _ _ _ _ _ _ _ _ _ _ _ _ _ _ _ _ _ _ _ _ _ _ _ _ _ _ _ _ _ _ _ _ _ _ _ _ _ _ _ _ _ _ _ _ _ _ _ _ _ _ _ _ _ _ _ _ _ (Lib.hid rfl) HE (by omega) hws (by omega) hn (by omega) cB HAr HRow ?_)
      intro u29 u30 u31 u32 u33 u34 u35 u36 u37 u38 u39 u40 u41 u42 w5 f vs' hf hE' hrow' hkp'
      have HE' := Lib.hid hE'
      have HRow' := Lib.hid hrow'
      have HKp' := Lib.hid hkp'
      have HF := Lib.hid hf
      clear hE' hrow' hkp' hf
      go_wp2_with fail
      go_roundw
      case rel => exact ⟨k + 1, by omega, by go_num, ⟨vs', _, HE'.out, HRow'.out, HMk.out.snoc HX.out HF.out⟩, HKp.out.trans HKp'.out⟩
      case measure => simp [intOf]; omega
    · obtain rfl : k = 4 := by omega
      clear hE hrow hmk hkp hsN hlt
      go_wp2_with (go_at_call 58; (with_reducible refine (texts_calls _).mono ?_); rintro e w1 ⟨rfl, rfl⟩)
      have hrow1 := World.ownsRow.alloc HRow.out (.cells (txtN.map Value.string).toArray 9)
      have hal : KpE W0.heap.size (w.heap.size + 1 + 1) wr (wr.alloc (.cells (txtN.map Value.string).toArray 9)) := KpE.of_bel ((Below.refl _ wr).alloc (Nat.le_refl _) _) hws
      have hT := heap_alloc_new wr (.cells (txtN.map Value.string).toArray 9)
      have hE1 := (Below.heap_alloc wr (.cells (txtN.map Value.string).toArray 9) _ (by omega : w.heap.size + 1 + 1 < wr.heap.size)).trans HE.out
      simp only [txtN, List.map_cons, List.map_nil] at hrow1 hal hT hE1
      generalize hg : (wr.alloc (.cells _ _)) = W1 at hrow1 hal hT hE1 ⊢
      have hs1 : W1.heap.size = wr.heap.size + 1 := by rw [← hg]; simp
      clear hg
      have HKp1 := Lib.hid (HKp.out.trans hal)
      have HT := Lib.hid hT
      have HE1 := Lib.hid hE1
      have HRow1 := Lib.hid hrow1
      clear hal hT hE1 hrow1
      generalize hNB : wr.heap.size = NB at hws hs1 HT ⊢
      go_loopw [46] (fun vi wr => ∃ k : Nat, k ≤ 2 ∧ vi = .int .i64 k ∧ MadeSt wr (w.heap.size + 1 + 1) W0.heap.size (4 + k) ∧ KpE W0.heap.size (w.heap.size + 1 + 1) W0 wr ∧ wr.heap[NB]? = some (.cells #[.string ⟨#[115]⟩, .string ⟨#[116]⟩] 9 (0, 0)) ∧ NB + 1 ≤ wr.heap.size) (fun vi _ => 2 - (intOf vi).toNat)
      case atStart => exact ⟨0, by omega, rfl, ⟨vs, xs, HE1.out, HRow1.out, HMk.out⟩, HKp1.out, HT.out, by omega⟩
      case round =>
        obtain ⟨k, hk, rfl, ⟨vs, xs, hE, hrow, hmk⟩, hkp, hT, hsq⟩ := hrel
        have HE := Lib.hid hE
        have HRow := Lib.hid hrow
        have HMk := Lib.hid hmk
        have HKp := Lib.hid hkp
        have HT := Lib.hid hT
        have cB : wr.cell? ⟨w.heap.size, 1, none⟩ = some (.slice A n c) := by simpa using cell_of_row wr _ 1 _ _ _ ((hkp.block _ (by omega) (by omega)).trans HB0.out)
        have hsN := strs_row txtN hT
        have HAr := Lib.hid (HA.out.bel (HW0.out.trans (hkp.bel (by omega) (by omega))))
        have hne : vs.ownBlock ≠ some NB := fun he => by
          rcases hrow.2 with ⟨h, _⟩ | ⟨g, c, cur, h, _, h2, _⟩
          · rw [h] at he; cases he
          · rw [h] at he
            cases he
            rw [hT] at h2
            cases h2
        have HNe := Lib.hid hne
        by_cases hlt : k < 2
        · have cN := hsN k (by simpa [txtN] using hlt)
          have hxk := txt_at k hlt
          have HX := Lib.hid hxk
          generalize txtN.getD k ByteArray.empty = nm at cN HX
          clear hE hrow hmk hkp hsN hxk hT hne
          go_wp2_with fail
          refine wp_normal (rM11 (w.heap.size + 1 + 1) w.heap.size W0.heap.size k (4 + k) nm A n c vs (.int .i64 2) (.slice none 0 0) _ xs wr _ _ _ _ _ _ _ _ _ _ _ _ _ _ _ _ _ _ _ _ _ _ _ _ _ _ _ _ _ _ _ _ _ _ _ _ _ _ _ _ _ _ _ _ _ _ _ _ _ _ _ _ _ _ _ _ _ _ _ _ _ _ _ _ _ _ _ _ _ _ _ _ _ _ _ _ _ _ _ _ _ _ _ _ _ _ _ _ _ _ _ _ _ _ _ _ _ _ _ _ _ _ _ _ _ _ _ _ _ _ _ _ _ _ _ _ _ _ _ (Lib.hid rfl) HE (by omega) (by omega) (by omega) hn (by omega) cB HAr HRow ?_)
          intro u51 u52 u53 u54 u55 u56 u57 u58 u59 u60 u61 u62 u63 u64 u65 u66 w5 f vs' hf hE' hrow' hkp' hkeep
          have HE' := Lib.hid hE'
          have HRow' := Lib.hid hrow'
          have HKp' := Lib.hid hkp'
          have HF := Lib.hid hf
          have HT' := Lib.hid ((hkeep NB (by omega) (by omega) HNe.out).trans HT.out)
          have hs5 := hkp'.size
          clear hE' hrow' hkp' hf hkeep
          go_wp2_with fail
          go_roundw
          case rel => exact ⟨k + 1, by omega, by go_num, ⟨vs', _, HE'.out, HRow'.out, HMk.out.snoc HX.out HF.out⟩, HKp.out.trans HKp'.out, HT'.out, by omega⟩
          case measure => simp [intOf]; omega
        · obtain rfl : k = 2 := by omega
          clear hE hrow hmk hkp hsN hlt hT hne
          obtain ⟨gv, cv, hvs, hgv⟩ := own_block HRow.out (by omega)
          simp only [Nat.reduceAdd] at hvs
          subst hvs
          have cB2 : wr.cell? ⟨w.heap.size, 2, none⟩ = some (.slice none 0 0) := by simpa using cell_of_row wr _ 2 _ _ _ ((HKp.out.block _ (by omega) (by omega)).trans HB0.out)
          have q0 : wr.cell? ⟨w.heap.size + 1 + 1, 0, none⟩ = some (.int .i64 2) := by simpa using cell_of_row wr _ 0 _ _ _ HE.out
          have q1 : wr.cell? ⟨w.heap.size + 1 + 1, 1, none⟩ = some (.slice (some ⟨gv, 0, none⟩) 6 cv) := by simpa using cell_of_row wr _ 1 _ _ _ HE.out
          have q2 : wr.cell? ⟨w.heap.size + 1 + 1, 2, none⟩ = some (.slice none 0 0) := by simpa using cell_of_row wr _ 2 _ _ _ HE.out
          have z2 := frozen_of_row wr _ 2 _ _ HE.out
          have y := (HKp.out.block (w.heap.size + 1) (by omega) (by omega)).trans HB1.out
          have y0 : wr.cell? ⟨w.heap.size + 1, 0, none⟩ = some (.int .i64 0) := by simpa using cell_of_row wr _ 0 _ _ _ y
          have y1 : wr.cell? ⟨w.heap.size + 1, 1, none⟩ = some (.slice none 0 0) := by simpa using cell_of_row wr _ 1 _ _ _ y
          have y2 : wr.cell? ⟨w.heap.size + 1, 2, none⟩ = some (.slice none 0 0) := by simpa using cell_of_row wr _ 2 _ _ _ y
          have v0 := frozen_of_row wr _ 0 _ _ y
          have v1 := frozen_of_row wr _ 1 _ _ y
          have v2 := frozen_of_row wr _ 2 _ _ y
          have Y := Lib.hid y
          clear y
          have l2 : w.heap.size + 1 + 1 < wr.heap.size := by omega
          have l1 : w.heap.size + 1 < wr.heap.size := by omega
          have hmin : (min (0 : Int) 4).toNat = 0 := by decide
          go_wp2_with fail
          go_loop [77] (fun vi => vi = .int .i64 0) (fun _ => 0)
          case atStart => exact rfl
          case round =>
            subst hrel
            go_wp2_with fail
            have G1 := grown1 wr (w.heap.size + 1 + 1) 2 (.slice (some ⟨wr.heap.size, 0, none⟩) 1 1)
            have hY := (G1.block (w.heap.size + 1) (by omega) (by simp)).trans Y.out
            have hs1 := G1.size
            generalize wr.setCell ⟨w.heap.size + 1 + 1, 2, none⟩ (.slice (some ⟨wr.heap.size, 0, none⟩) 1 1) = W1 at G1 hY hs1 ⊢
            have X1 := set3 (v1 := .int .i64 2) (v2 := .slice (some ⟨gv, 0, none⟩) 6 cv) (v3 := .slice (some ⟨wr.heap.size, 0, none⟩) 1 1) hY
            have G2 := grown3 W1 (w.heap.size + 1) (.int .i64 2) (.slice (some ⟨gv, 0, none⟩) 6 cv) (.slice (some ⟨wr.heap.size, 0, none⟩) 1 1)
            have hs2 := G2.size
            generalize ((W1.setCell ⟨w.heap.size + 1, 0, none⟩ (.int .i64 2)).setCell ⟨w.heap.size + 1, 1, none⟩ (.slice (some ⟨gv, 0, none⟩) 6 cv)).setCell ⟨w.heap.size + 1, 2, none⟩ (.slice (some ⟨wr.heap.size, 0, none⟩) 1 1) = W2 at X1 G2 hs2 ⊢
            have X2 := (Below.heap_alloc W2 (.cells #[.string ⟨#[97]⟩, .slice none 0 0] 119) (w.heap.size + 1) (by omega)).trans X1
            have G3 := (Below.refl W2.heap.size W2).alloc (Nat.le_refl _) (.cells #[.string ⟨#[97]⟩, .slice none 0 0] 119)
            generalize W2.alloc (.cells #[.string ⟨#[97]⟩, .slice none 0 0] 119) = W3 at X2 G3 ⊢
            have x0 : W3.cell? ⟨w.heap.size + 1, 0, none⟩ = some (.int .i64 2) := by simpa using cell_of_row W3 _ 0 _ _ _ X2
            have x1 : W3.cell? ⟨w.heap.size + 1, 1, none⟩ = some (.slice (some ⟨gv, 0, none⟩) 6 cv) := by simpa using cell_of_row W3 _ 1 _ _ _ X2
            have x2 : W3.cell? ⟨w.heap.size + 1, 2, none⟩ = some (.slice (some ⟨wr.heap.size, 0, none⟩) 1 1) := by simpa using cell_of_row W3 _ 2 _ _ _ X2
            obtain ⟨hl6, hge, hblk⟩ := blk_of HRow.out
            have hbl := hblk.lt
            refine bodyPost_ret (v := .agg #[.int .i64 2, .slice (some ⟨gv, 0, none⟩) 6 cv, .slice (some ⟨wr.heap.size, 0, none⟩) 1 1]) (by simp [results, Tryz.results35, go_sem, x0, x1, x2]) rfl ?_
            refine ⟨gv, cv, _, xs, rfl, HMk.out, ?_, by omega, ?_⟩
            · exact hblk.move ((G3.block gv (by omega)).trans ((G2.block gv (by omega) (by simp; omega)).trans (G1.block gv (by omega) (by simp; omega))))
            · exact ((((HW0.out.trans (HKp.out.bel (by omega) (by omega))).grown G1 (by omega) (fun j hj => by cases hj; omega)).grown G2 (by omega) (fun j hj => by cases hj; omega)).trans (G3.mono (by omega)))
end Go.Proofs.YtaognphegancbaaGreatDoor
