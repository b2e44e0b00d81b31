/- vars: New. -/
import Derived.Test.YtaognphegancbaaGreatDoorVK
import Derived.StillTailTactics
namespace Go.Proofs.YtaognphegancbaaGreatDoor
set_option linter.unusedVariables false
set_option linter.unusedSimpArgs false
open Go.RowKit Go.Maps Go.WideMaps
theorem still_tail_d {P : Program} {id : Nat} {Q : Exit → Act → World → Prop} {a : Act} {w : World} {l : List Oper} (n : Nat) (hm : P.follows .mixedOrders = true) (hB : Region.lexTailB .any l.toArray n = true)
    (h : wpStill P l.toArray w.drew (fun a' => wpList P l.toArray Q (l.drop n) a' w.drew) (l.take n) a) : (Code.region id l.toArray true).wp P Q a w := wp_region_still_tail n hm hB h
theorem IsMapOf.made (w : World) : IsMapOf (w.alloc (.map #[] 0)) w.heap.size [] := World.ownsMap_made _ _ _ _
theorem IsMapOf.drew {w : World} {b : Nat} {l : List ByteArray} (h : IsMapOf w b l) : IsMapOf w.drew b l := h.move rfl
theorem IsMapOf.put {w : World} {b : Nat} {l : List ByteArray} {s : ByteArray} {k : Nat} (h : w.ownsMap Tryz.prog 9 (plainElem Tryz.prog 3) b (l.length + 1) ((mapOf l).put (keyL s) (.lit (.int .i64 (k : Int))))) (hk : k = l.length) : IsMapOf w b (l ++ [s]) := by
  subst hk
  unfold IsMapOf
  rw [mapOf_snoc, List.length_append]
  exact h
theorem names_take {xs : List VarD} {k : Nat} {x : VarD} (hx : xs[k]? = some x) : (xs.take (k + 1)).map (·.name) = (xs.take k).map (·.name) ++ [x.name] := by
  rw [List.take_add_one, hx, List.map_append]; rfl
set_option maxRecDepth 100000 in
theorem new_ok (g c n : Nat) (xs : List VarD) (w : World) (h1 : Blk w g c xs) (hn : n = xs.length) (h0 : 0 < n) (h12 : n ≤ 12) (hok : ∀ k x, xs[k]? = some x → OkAt xs k x) (hnm : ∀ x ∈ xs, x.name.size ≤ maxLen) :
    Calls Tryz.prog 24 #[.slice (some ⟨g, 0, none⟩) n c] w fun e w' => ∃ S BM L F cl cf, e = .returned (.tuple #[.pointer (some ⟨S, 0, none⟩), .int .i64 0]) ∧ w.heap.size ≤ S ∧ w.heap.size ≤ BM ∧ w.heap.size ≤ L ∧ w.heap.size ≤ F ∧ IsStore w' S BM L F cl cf xs xs ∧ Below w.heap.size w w' := by
  have HCk := Lib.hid (check_ok g c n xs w h1 hn h12 hok)
  have HB := Lib.hid h1
  have HN := Lib.hid hn
  have HS := Lib.hid hnm
  have l1 := h1.lt
  clear h1 hn hok hnm
  have hmm := @run_makeMap Tryz.prog
  go_enter Tryz.func24, Tryz.ntmps24
  go_wp2_with (go_at_call 23; (with_reducible refine HCk.out.mono ?_); rintro e w1 ⟨rfl, hb1⟩)
  have HB1 := Lib.hid (HB.out.bel hb1)
  have HW1 := Lib.hid hb1
  have hs1 := hb1.size
  clear hb1
  refine (clone_calls g c n xs _ HB1.out h0 HN.out (by omega)).mono ?_
  rintro e w2 ⟨L, cl, rfl, hL, hbL, hb2⟩
  have HBL := Lib.hid hbL
  have HB2 := Lib.hid (HB1.out.bel hb2)
  have HW2 := Lib.hid (HW1.out.trans (hb2.mono hs1))
  have hs2 := HW2.out.size
  clear hb2 hbL
  go_wp2_with fail
  refine (clone_calls g c n xs _ (HB2.out.al _) h0 HN.out (by omega)).mono ?_
  rintro e w3 ⟨F, cf, rfl, hF, hbF, hb3⟩
  have hLw : L < w2.heap.size := HBL.out.lt
  have hFw : F < w3.heap.size := hbF.lt
  have hs3 : w2.heap.size + 1 ≤ w3.heap.size := by have := hb3.size; simpa using this
  have HW3 := Lib.hid (HW2.out.trans ((((Below.refl w2.heap.size w2).alloc (Nat.le_refl _) _).trans (hb3.mono (by simp))).mono hs2))
  have HBg := Lib.hid ((HB2.out.al (.map #[] 0)).bel hb3)
  have HL3 := Lib.hid ((HBL.out.al (.map #[] 0)).bel hb3)
  have HM3 := Lib.hid ((IsMapOf.made w2).bel hb3)
  have HF3 := Lib.hid hbF
  have hF2 : w2.heap.size + 1 ≤ F := by simpa using hF
  clear hb3 hbF hF HB HCk HB1 HB2 HBL HW1 HW2
  go_wp2_with fail
  go_loopw [26] (fun vi wr => ∃ k : Nat, k ≤ n ∧ vi = .int .i64 k ∧ (wr.heap[w3.heap.size]? = some (.cells #[.slice (some ⟨L, 0, none⟩) n cl, .map (some w2.heap.size), .slice (some ⟨F, 0, none⟩) n cf] 89 (0, 0)) ∧ Blk wr g c xs ∧ Blk wr L cl xs ∧ Blk wr F cf xs ∧ IsMapOf wr w2.heap.size ((xs.take k).map (·.name))) ∧ Below w.heap.size w wr ∧ w3.heap.size + 1 ≤ wr.heap.size) (fun vi _ => n - (intOf vi).toNat)
  case atStart =>
    exact ⟨0, by omega, rfl, ⟨heap_alloc_new w3 _, HBg.out.al _, HL3.out.al _, HF3.out.al _, HM3.out.al _⟩, HW3.out.alloc (by have := HW3.out.size; omega) _, by simp⟩
  case round =>
    obtain ⟨k, hk, rfl, ⟨hS, hg, hL2, hF3, hM⟩, hbr, hsr⟩ := hrel
    by_cases hlt : k < n
    · obtain ⟨x, hx⟩ : ∃ x, xs[k]? = some x := ⟨_, List.getElem?_eq_getElem (by have := HN.out; omega)⟩
      obtain ⟨a0, a1, a2, a3⟩ := hg.at4 x hx
      have c1 : wr.cell? ⟨w3.heap.size, 1, none⟩ = some (.map (some w2.heap.size)) := by simpa using cell_of_row wr w3.heap.size 1 _ _ _ hS
      have hg1 : g < wr.heap.size := hg.lt
      have hg2 : w3.heap.size < wr.heap.size := by omega
      have HR := Lib.hid (And.intro hS (And.intro hg (And.intro hL2 (And.intro hF3 hM))))
      have HW := Lib.hid hbr
      have HX := Lib.hid hx
      have HT := Lib.hid (names_take hx)
      have HKy := Lib.hid (keyOf_string_mk (P := Tryz.prog) Tryz.underlying9 (HS.out x (List.mem_of_getElem? hx)))
      have HLn := Lib.hid (show ((xs.take k).map (·.name)).length = k by rw [List.length_map, List.length_take]; have := HN.out; omega)
      clear hS hg hL2 hF3 hM hbr hx
      go_wp2_with fail
      refine still_tail_d 8 (by kernel_rfl) (by kernel_rfl) ?_
      simp only [List.take_succ_cons, List.take_zero, List.drop_succ_cons, List.drop_zero]
      repeat still_step
      refine wpStill_nil ?_
      go_wp2_with (at_mapUpdate; refine wpList_mapUpdate_own _ rfl _ _ _ 85 rfl 9 3 strK Tryz.underlying85 (plainElem Tryz.prog 3) w2.heap.size ((xs.take k).map fun y : VarD => y.name).length (mapOf ((xs.take k).map fun y : VarD => y.name)) rfl (HR.out.2.2.2.2.al _).drew (by rw [HLn.out]; unfold maxLen; omega) _ _ (keyL x.name) rfl rfl HKy.out (.lit (.int .i64 (k : Int))) [] (plainElem_int Tryz.underlying3 (WalkArith.wf_i64 (by omega))) ?_; intro w5 hown5 hgrow5)
      have hput := IsMapOf.put hown5 HLn.out.symm
      rw [← HT.out] at hput
      have hB5 := below_by (B := w.heap.size) hgrow5 (by have := HW.out.size; simp; omega) (fun j hj => by cases hj; omega)
      have hgk : ∀ j, j < wr.heap.size → j ≠ w2.heap.size → w5.heap[j]? = wr.heap[j]? := fun j hj hne => (hgrow5.block j (by simp; omega) (by simpa using hne)).trans (Below.heap_alloc wr _ j hj)
      have hsz5 := hgrow5.size
      simp at hsz5
      have HG := Lib.hid hgk
      have HP := Lib.hid hput
      have HB5 := Lib.hid hB5
      have hne1 : w3.heap.size ≠ w2.heap.size := by omega
      clear hgk hput hB5 hown5 hgrow5
      go_roundw
      case rel =>
        obtain ⟨r1, r2, r3, r4, r5⟩ := HR.out
        exact ⟨k + 1, by omega, by go_num, ⟨(HG.out _ hg2 hne1).trans r1, r2.move (HG.out _ hg1 (by have := r5.lt; omega)), r3.move (HG.out _ r3.lt (by omega)), r4.move (HG.out _ r4.lt (by omega)), HP.out⟩, HW.out.trans ((((Below.refl wr.heap.size wr).alloc (Nat.le_refl _) _).mono HW.out.size).drew.trans HB5.out), by omega⟩
      case measure => simp [intOf]; omega
    · obtain rfl : k = n := by omega
      have hnn : xs.take k = xs := List.take_of_length_le (by have := HN.out; omega)
      rw [hnn] at hM
      have HF := Lib.hid (And.intro hS (And.intro hL2 (And.intro hF3 (And.intro hM hbr))))
      clear hnn hS hg hL2 hF3 hM hbr hlt
      go_wp2_with fail
      go_ret2
      obtain ⟨r1, r3, r4, r5, r6⟩ := HF.out
      refine ⟨w3.heap.size, w2.heap.size, L, F, cl, cf, rfl, by omega, by omega, by omega, by omega, ⟨?_, r5, r3, r4, by omega⟩, r6⟩
      rw [← HN.out]; exact r1
end Go.Proofs.YtaognphegancbaaGreatDoor
