/- vars: the iterator of what has changed. -/
import Derived.Test.YtaognphegancbaaGreatDoorVM
import Derived.RangeFuncBox
import Derived.Lib.QuietBelow
import Derived.RangeFuncNested
import Derived.RangeFuncBound
import Derived.RangeFuncCalls
import Derived.RangeFuncLeaves
import Derived.Shelf.Abstract
import Derived.Shelf.RegionOpen
import Derived.OwnWalkIn
import Derived.TacticsInMore
import Derived.LoopNIn
import Derived.LoopIn
namespace Go.Proofs.YtaognphegancbaaGreatDoor
set_option linter.unusedVariables false
set_option linter.unusedSimpArgs false
open Go.RowKit Go.Maps Go.WideMaps Go.Shelf
attribute [local go_sem] Oper.semAt_some
def sameV (x y : VarD) : Bool := sameB x.num x.text x.flt y.num y.text y.flt
/-- The names of those that are not the same. -/
def chg (l : List (VarD × VarD)) : List ByteArray := (l.filter (fun p => !sameV p.1 p.2)).map (·.1.name)
theorem chg_snoc (l : List (VarD × VarD)) (x y : VarD) : chg (l ++ [(x, y)]) = chg l ++ if sameV x y then [] else [x.name] := by
  unfold chg
  rw [List.filter_append, List.map_append]
  congr 1
  cases h : sameV x y <;> simp [h]
theorem chg_len (l : List (VarD × VarD)) : (chg l).length ≤ l.length := by
  unfold chg; rw [List.length_map]; exact List.length_filter_le _ _
theorem IsStore.belN {w w' : World} {n₀ S BM L F cl cf : Nat} {cur fst : List VarD} (h : IsStore w S BM L F cl cf cur fst) (hb : Below n₀ w w') (h1 : S < n₀) (h2 : BM < n₀) (h3 : L < n₀) (h4 : F < n₀) : IsStore w' S BM L F cl cf cur fst :=
  ⟨(hb.block S h1).trans h.box, h.map.move (hb.block BM h2), h.own.move (hb.block L h3), h.fir.move (hb.block F h4), h.ne⟩
/-- What a round keeps: all below n₀, and the box of the iterator's own. -/
def KpB (n₀ Bn : Nat) (W W' : World) : Prop := Below n₀ W W' ∧ W'.heap[Bn]? = W.heap[Bn]?
theorem KpB.t {n₀ Bn : Nat} {A B C : World} (h : KpB n₀ Bn A B) (k : KpB n₀ Bn B C) : KpB n₀ Bn A C := ⟨h.1.trans k.1, k.2.trans h.2⟩
theorem KpB.b {n₀ Bn : Nat} {w : World} (hn : n₀ ≤ w.heap.size) (hB : Bn < w.heap.size) (W : World) (l : Nat) (o o' : Obj) (hl : w.heap.size ≤ l) (h : W.heap[l]? = some o) (h1 : o.isCells = false) (h2 : o.isWalk = false) : KpB n₀ Bn W (W.putObj l o') :=
  ⟨belowK_b hn W l o o' hl h h1 h2, World.putObj_heap_other (by omega)⟩
theorem boxed_bel {W W' : World} {B : Nat} {t : TypeId} {v : Value} (h : Boxed W B t v) (hb : Below W.heap.size W W') : Boxed W' B t v := (hb.block B h.lt).trans h
theorem namecell {w w' : World} {n : ByteArray} {c1 c2 c3 : Value} {t : TypeId} (hb : Below (w.alloc (.cells #[.string n, c1, c2, c3] t)).drew.heap.size (w.alloc (.cells #[.string n, c1, c2, c3] t)).drew w') : w'.cell? ⟨w.heap.size, 0, none⟩ = some (.string n) :=
  cell_bel hb (by exact World.cell?_alloc_new _ _ _ _)
theorem by_of_below {w w' : World} (h : Below w.heap.size w w') (row : Option Nat) : w.grownBy w' row := ⟨h.os, h.tape, h.output, h.size, fun i hi _ => h.block i hi⟩
set_option maxRecDepth 100000 in
set_option maxHeartbeats 2000000 in
theorem changed1_in (n l Bn n₀ S BM L F cl cf : Nat) (hn : 3 ≤ n) (cur fst : List VarD) (W : World) (hst : IsStore W S BM L F cl cf cur fst) (hl : fst.length = cur.length) (hf : cur.length ≤ 1000)
    (hS : S < n₀) (hBM : BM < n₀) (hL : L < n₀) (hF : F < n₀) (hn₀ : n₀ ≤ W.heap.size) (hbox : Boxed W Bn 28 (.pointer (some ⟨S, 0, none⟩)))
    (J Jx : List ByteArray → World → Prop) (hJ : AbidesFrom W.heap.size J)
    (hY : ∀ pre x W, J pre W → pre.length < cur.length → YieldAt Fence.wide (n - 1) Tryz.prog l #[.string x] W fun e W' =>
      (e = .returned (.bool true) ∧ J (pre ++ [x]) W' ∧ KpB n₀ Bn W W') ∨ (e = .returned (.bool false) ∧ Jx (pre ++ [x]) W'))
    (h0 : J [] W) :
    CallsIn Fence.wide n Tryz.prog 62 #[.func (.yield l) #[] #[], .pointer (some ⟨Bn, 0, none⟩)] W fun e W' => (∃ v, e = .returned v) ∧
      ((∃ ys, ys = chg (cur.zip fst) ∧ J ys W') ∨ (∃ pre, True ∧ Jx pre W')) := by
  have c0 := hst.c0
  have c2 := hst.c2
  have cb := hbox.cell
  have HBX := Lib.hid hbox
  have HST := Lib.hid hst
  have HL := Lib.hid hl
  have HJ := Lib.hid hJ
  have HY := Lib.hid hY
  clear hst hl hJ hY hbox
  refine callsIn_of_wp Tryz.func62 rfl trivial ?_ rfl
  simp only [Tryz.ntmps62, List.size_toArray, List.length_cons, List.length_nil, Nat.reduceAdd, Nat.reduceSub, Array.replicate_succ, Array.replicate_zero, List.push_toArray, List.append_toArray, List.nil_append, List.cons_append]
  gi_wp2
  gi_loopw [11] (fun i wr => ∃ k : Nat, k ≤ cur.length ∧ i = .int .i64 k ∧ J (chg ((cur.take k).zip (fst.take k))) wr ∧ (Below n₀ W wr ∧ Hid (Boxed wr Bn 28 (.pointer (some ⟨S, 0, none⟩)))) ∧ W.heap.size ≤ wr.heap.size) (fun i _ => cur.length - (intOf i).toNat)
  case atStart => exact ⟨0, Nat.zero_le _, rfl, h0, ⟨Below.refl _ _, HBX⟩, Nat.le_refl _⟩
  case round =>
    obtain ⟨k, hk, rfl, hJs, ⟨hnx, HBr⟩, hsz⟩ := hrel
    have HSr := Lib.hid (HST.out.belN hnx hS hBM hL hF)
    have hbx := HBr.out.cell
    have d2 := HSr.out.c2
    have HX := Lib.hid hnx
    have HJs := Lib.hid hJs
    clear hnx hJs c0 c2 cb
    by_cases hlt : k < cur.length
    · obtain ⟨x, hx⟩ : ∃ x, cur[k]? = some x := ⟨_, List.getElem?_eq_getElem hlt⟩
      obtain ⟨y, hy⟩ : ∃ y, fst[k]? = some y := ⟨_, List.getElem?_eq_getElem (by have := HL.out; omega)⟩
      obtain ⟨a0, a1, a2, a3⟩ := HSr.out.own.at4 x hx
      obtain ⟨b0, b1, b2, b3⟩ := HSr.out.fir.at4 y hy
      have HZ := Lib.hid (zip_take hx hy)
      have hfl : k < fst.length := by have := HL.out; omega
      have hS1 : S < wr.heap.size := by omega
      have hL1 : L < wr.heap.size := by omega
      have hF1 : F < wr.heap.size := by omega
      have hB1 : Bn < wr.heap.size := HBr.out.lt
      have hw13 : Fence.wide.fn 13 := trivial
      have h1n : 1 ≤ n := by omega
      have hfol : Tryz.prog.follows .mixedOrders = true := by kernel_rfl
      cases hv : sameV x y with
      | true =>
        have HV := Lib.hid (fun w => (hv ▸ sameval_calls x.num y.num x.text y.text x.flt y.flt w : Calls Tryz.prog 13 #[.agg #[.bool x.num, .string x.text, .float .f64 x.flt], .agg #[.bool y.num, .string y.text, .float .f64 y.flt]] w fun e w' => e = .returned (.bool true) ∧ Below w.heap.size w w'))
        have HN := Lib.hid (show chg ((cur.take (k + 1)).zip (fst.take (k + 1))) = chg ((cur.take k).zip (fst.take k)) by rw [HZ.out, chg_snoc, hv]; simp)
        clear hx hy hv
        gi_wp2
        refine wpIn_wide.2 ?_
        have K1 := cell_regrown (w := wr.alloc (.cells #[.string x.name, .bool x.num, .string x.text, .float .f64 x.flt] 37)) (a := ⟨wr.heap.size, 1, none⟩) (v := .bool x.num) (World.cell?_alloc_new _ _ _ _)
        have K2 := cell_regrown (w := wr.alloc (.cells #[.string x.name, .bool x.num, .string x.text, .float .f64 x.flt] 37)) (a := ⟨wr.heap.size, 2, none⟩) (v := .string x.text) (World.cell?_alloc_new _ _ _ _)
        have K3 := cell_regrown (w := wr.alloc (.cells #[.string x.name, .bool x.num, .string x.text, .float .f64 x.flt] 37)) (a := ⟨wr.heap.size, 3, none⟩) (v := .float .f64 x.flt) (World.cell?_alloc_new _ _ _ _)
        have K4 := cell_regrown (cell_al hbx (.cells #[.string x.name, .bool x.num, .string x.text, .float .f64 x.flt] 37))
        have K5 := cell_regrown (cell_al d2 (.cells #[.string x.name, .bool x.num, .string x.text, .float .f64 x.flt] 37))
        have K6 := cell_regrown (cell_al b1 (.cells #[.string x.name, .bool x.num, .string x.text, .float .f64 x.flt] 37))
        have K7 := cell_regrown (cell_al b2 (.cells #[.string x.name, .bool x.num, .string x.text, .float .f64 x.flt] 37))
        have K8 := cell_regrown (cell_al b3 (.cells #[.string x.name, .bool x.num, .string x.text, .float .f64 x.flt] 37))
        have HCS := Lib.hid (fun (w : World) d os => Calls.regrown_of (w := w) (d := d) (os := os) (HV.out _))
        refine wp_region_quiet_below (by kernel_rfl) (by kernel_rfl) ?_
        repeat (quiet_step (exact HCS.out _ _ _))
        refine wpQuiet_nil ?_
        intro w5 hw5
        have hb5 : Below (wr.alloc (.cells #[.string x.name, .bool x.num, .string x.text, .float .f64 x.flt] 37)).heap.size (wr.alloc (.cells #[.string x.name, .bool x.num, .string x.text, .float .f64 x.flt] 37)) w5 := by
          obtain ⟨p, rfl⟩ := hw5
          exact below_regrown _ _ _
        have HB5 := Lib.hid hb5
        clear hw5 hb5 K1 K2 K3 K4 K5 K6 K7 K8
        gi_wp2
        have hB := ((Below.refl wr.heap.size wr).alloc (Nat.le_refl _) (.cells #[.string x.name, .bool x.num, .string x.text, .float .f64 x.flt] 37)).trans (HB5.out.mono (by simp))
        exact ⟨⟨k + 1, by omega, by simp, by rw [HN.out]; exact HJ.out _ _ _ none HJs.out (by_of_below hB none) (by intro r e; cases e), ⟨HX.out.trans (hB.mono (by omega)), boxed_bel HBr.out hB⟩, Nat.le_trans hsz hB.size⟩, by simp [intOf]; omega⟩
      | false =>
        have HV := Lib.hid (fun w => (hv ▸ sameval_calls x.num y.num x.text y.text x.flt y.flt w : Calls Tryz.prog 13 #[.agg #[.bool x.num, .string x.text, .float .f64 x.flt], .agg #[.bool y.num, .string y.text, .float .f64 y.flt]] w fun e w' => e = .returned (.bool false) ∧ Below w.heap.size w w'))
        have HN := Lib.hid (show chg ((cur.take (k + 1)).zip (fst.take (k + 1))) = chg ((cur.take k).zip (fst.take k)) ++ [x.name] by rw [HZ.out, chg_snoc, hv]; simp)
        have hlen : (chg ((cur.take k).zip (fst.take k))).length < cur.length := by
          have h1 := chg_len ((cur.take k).zip (fst.take k))
          rw [List.length_zip, List.length_take] at h1
          omega
        have HYw := Lib.hid (fun w' (hb : Below (wr.alloc (.cells #[.string x.name, .bool x.num, .string x.text, .float .f64 x.flt] 37)).drew.heap.size (wr.alloc (.cells #[.string x.name, .bool x.num, .string x.text, .float .f64 x.flt] 37)).drew w') =>
          (HY.out _ x.name w' (HJ.out _ _ _ none HJs.out (by_of_below (((Below.refl wr.heap.size wr).alloc (Nat.le_refl _) (.cells #[.string x.name, .bool x.num, .string x.text, .float .f64 x.flt] 37)).drew.trans (hb.mono (by simp))) none) (by intro r e; cases e)) hlen).mono
            (R' := fun e W3 => ∃ b, e = .returned (.bool b) ∧ ((b = true ∧ J (chg ((cur.take k).zip (fst.take k)) ++ [x.name]) W3 ∧ KpB n₀ Bn w' W3) ∨ (b = false ∧ Jx (chg ((cur.take k).zip (fst.take k)) ++ [x.name]) W3)))
            (fun e W3 h => by
              rcases h with ⟨h1, h2, h3⟩ | ⟨h1, h2⟩
              · exact ⟨true, h1, .inl ⟨rfl, h2, h3⟩⟩
              · exact ⟨false, h1, .inr ⟨rfl, h2⟩⟩))
        clear hx hy hv
        gi_wp2
        gi_region_with_o (first
          | (gi_at_call 13; (with_reducible refine (CallsIn.mono (callsIn_wide.2 (HV.out _)) ?_)); rintro e w' ⟨rfl, hb⟩; have nm0 := namecell hb; obtain ⟨fn, tmps, assign, body, hy, hR⟩ := HYw.out w' hb)
          | (refine RoundIn.mono hR ?_; rintro e W3 ⟨b, rfl, h⟩))
        all_goals
          clear hy hR nm0
          have hBw := ((Below.refl wr.heap.size wr).alloc (Nat.le_refl _) (.cells #[.string x.name, .bool x.num, .string x.text, .float .f64 x.flt] 37)).drew.trans (hb.mono (by simp))
          clear hb
          rcases h with ⟨rfl, hJ3, hk3⟩ | ⟨rfl, hJx3⟩
          · have HJ3 := Lib.hid hJ3
            have HK3 := Lib.hid hk3
            clear hJ3 hk3
            gi_wp2
            exact ⟨⟨k + 1, by omega, by simp, by rw [HN.out]; exact HJ3.out, ⟨HX.out.trans ((hBw.mono (by omega)).trans HK3.out.1), HK3.out.2.trans (boxed_bel HBr.out hBw)⟩, Nat.le_trans hsz (Nat.le_trans hBw.size HK3.out.1.size)⟩, by simp [intOf]; omega⟩
          · have HJ3 := Lib.hid hJx3
            clear hJx3
            gi_wp2
            refine bodyPost_ret (results_none rfl _ _ _) rfl ?_
            exact ⟨⟨_, rfl⟩, .inr ⟨_, trivial, HJ3.out⟩⟩
    · obtain rfl : k = cur.length := by omega
      have hnn : (cur.take cur.length).zip (fst.take cur.length) = cur.zip fst := by rw [List.take_length, List.take_of_length_le (by have := HL.out; omega)]
      have HJn := Lib.hid (show J (chg (cur.zip fst)) wr by rw [← hnn]; exact HJs.out)
      clear hnn
      gi_wp2
      go_end0
      exact ⟨⟨_, rfl⟩, .inl ⟨_, rfl, HJn.out⟩⟩
end Go.Proofs.YtaognphegancbaaGreatDoor
