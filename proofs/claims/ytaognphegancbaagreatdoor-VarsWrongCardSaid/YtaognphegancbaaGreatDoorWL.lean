/- vars: slices.Repeat at one variable, thirteen times. -/
import Derived.Test.YtaognphegancbaaGreatDoorWK
namespace Go.Proofs.YtaognphegancbaaGreatDoor
set_option linter.unusedVariables false
set_option linter.unusedSimpArgs false
open Go.RowKit Go.Maps Go.WideMaps
set_option maxRecDepth 100000 in
theorem mul64_13 (w : World) : Calls Tryz.prog 68 #[.int .u64 1, .int .u64 13] w fun e w' => e = .returned (.tuple #[.int .u64 0, .int .u64 13]) ∧ w = w' := by
  go_enter Tryz.func68, Tryz.ntmps68
  go_wp2
  refine bodyPost_ret (v := .tuple #[.int .u64 0, .int .u64 13]) (by simp [results, Tryz.results68, go_sem]; decide +kernel) rfl ⟨rfl, rfl⟩
set_option maxRecDepth 100000 in
theorem mul_13 (w : World) : Calls Tryz.prog 46 #[.int .u64 1, .int .u64 13] w fun e w' => e = .returned (.tuple #[.int .u64 0, .int .u64 13]) ∧ w = w' := by
  go_enter Tryz.func46, Tryz.ntmps46
  go_wp2_with (go_at_call 68; (with_reducible refine (mul64_13 _).mono ?_); rintro e w' ⟨rfl, rfl⟩)
  refine bodyPost_ret (v := .tuple #[.int .u64 0, .int .u64 13]) (by simp [results, Tryz.results46, go_sem]) rfl ⟨rfl, rfl⟩
def RowN (w : World) (g : Nat) : Prop := ∃ cur : Array Value, w.heap[g]? = some (.cells cur 37 (0, 0)) ∧ cur.size = 52 ∧ ∀ v ∈ cur, v.oneCell' = true
theorem made52 (w : World) : ∃ MC : Array Value, MC.size = 52 ∧ (∀ v ∈ MC, v.oneCell' = true) ∧ ∀ w : World, (Instr.makeSlice 29 (.int .i64 13) (.int .i64 13)).run Tryz.prog w = .ok (.slice (some ⟨w.heap.size, 0, none⟩) 13 13) (w.alloc (.cells MC 37)) := by
  obtain ⟨i0, hi, hz0, hz1, hz2⟩ := info_parts var_info
  refine ⟨madeCells zVar.cells (13 * 4), by simp [size_madeCells], by decide +kernel, fun w => ?_⟩
  have h := run_makeSlice (P := Tryz.prog) w 29 37 i0 zVar Tryz.underlying29 hi hz0 .i64 .i64 13 13 (by decide) (by decide) (by rw [hz1]; decide) (by rw [hz2]; decide) (by decide)
  rw [hz1] at h
  exact h
theorem rowN_set {w : World} {g : Nat} {cur : Array Value} {cs : List Value} {o : Nat} (hb : w.heap[g]? = some (.cells cur 37 (0, 0))) (hs : cur.size = 52) (h1 : ∀ v ∈ cur, v.oneCell' = true) (hc : ∀ v ∈ cs, v.oneCell' = true) (hfit : o + cs.length ≤ 52) :
    RowN (w.setRow g (cur.toList.take o ++ cs ++ cur.toList.drop (o + cs.length)).toArray) g ∧ w.grownBy (w.setRow g (cur.toList.take o ++ cs ++ cur.toList.drop (o + cs.length)).toArray) (some g) := by
  refine ⟨⟨_, setRow_heap w g cur _ _ _ hb, ?_, fun v hv => ?_⟩, ⟨rfl, rfl, rfl, by simp [World.setRow], fun i hi hne => setRow_other w g i _ (by simpa using hne)⟩⟩
  · simp; omega
  · have hv' : v ∈ cur.toList.take o ++ cs ++ cur.toList.drop (o + cs.length) := by simpa using hv
    rcases List.mem_append.1 hv' with hv' | hv'
    · rcases List.mem_append.1 hv' with hv' | hv'
      · exact h1 v (by simpa using List.mem_of_mem_take hv')
      · exact hc v hv'
    · exact h1 v (by simpa using List.mem_of_mem_drop hv')
theorem step_copy_rowN {P : Program} {w : World} {ops : Array Oper} {o : Oper} {a : Act} {K : Act → World → Prop} {Q : Exit → Act → World → Prop} {E : Prop} (hgd : o.guard = none) (d s : Operand) (dT sT : TypeId)
    (ho : o.op = .call { callee := .builtin .copy, args := #[d, s], argTypes := #[dT, sT] }) (elem : TypeId) (sz : Nat) (hu : P.underlying dT = some (.slice elem)) (hsz : (P.info? elem).map (·.size) = some sz)
    (g off dLen dCap : Nat) (ad : Addr) (sLen sCap : Nat) (hd : a.eval d = .slice (some ⟨g, off, none⟩) dLen dCap) (hs : a.eval s = .slice (some ad) sLen sCap)
    (cur : Array Value) (t : TypeId) (hg : w.heap[g]? = some (.cells cur t (0, 0))) (cs : List Value) (hn : cs.length = Nat.min sLen dLen * sz)
    (hsrc : ∀ j v, cs[j]? = some v → w.cell? (ad.add j) = some v) (hfit : off + cs.length ≤ cur.size) (h1 : ∀ v ∈ cs, v.oneCell' = true)
    (h : K (a.put o.dst (goInt (Nat.min sLen dLen))) (w.setRow g (cur.toList.take off ++ cs ++ cur.toList.drop (off + cs.length)).toArray)) : if Region.wanted o (yielded ops a.tmps) = true then Oper.wp P o a w K Q else E := by
  have hw : Region.wanted o (yielded ops a.tmps) = true := by simp [Region.wanted, hgd]
  rw [if_pos hw]
  have hrun := run_copy_rowN (P := P) w dT sT o.type elem sz g off dLen dCap ad sLen sCap cur t cs hu hsz hg hn hsrc hfit h1
  unfold Oper.wp
  simp only [execOp, ho, resolve, invoke, builtin, Sem.run_bind, Sem.run_pure, Result.andThen_ok, List.map_toArray, List.map_cons, List.map_nil, hd, hs, hrun]
  exact h
theorem copy_src {wr : World} {g m o : Nat} {cur : Array Value} (hb : wr.heap[g]? = some (.cells cur 37 (0, 0))) (hs : cur.size = 52) (h1 : ∀ v ∈ cur, v.oneCell' = true) (hm : m * 4 ≤ 52) (ho : o + m * 4 ≤ 52) :
    (cur.toList.take (m * 4)).length = m * 4 ∧ (∀ j v, (cur.toList.take (m * 4))[j]? = some v → wr.cell? ((⟨g, 0, none⟩ : Addr).add j) = some v) ∧ (∀ v ∈ cur.toList.take (m * 4), v.oneCell' = true) ∧ o + (cur.toList.take (m * 4)).length ≤ cur.size := by
  have hl : (cur.toList.take (m * 4)).length = m * 4 := by rw [List.length_take, Array.length_toList, hs]; omega
  refine ⟨hl, fun j v hv => ?_, fun v hv => h1 v (by simpa using List.mem_of_mem_take hv), by rw [hl, hs]; exact ho⟩
  rw [add0, cell_of_row wr g j _ _ _ hb]
  rw [List.getElem?_take] at hv
  split at hv
  · simpa using hv
  · cases hv
set_option maxRecDepth 100000 in
set_option maxHeartbeats 1000000 in
theorem repeat13 (g c : Nat) (x : VarD) (w : World) (hb : Blk w g c [x]) :
    Calls Tryz.prog 25 #[.slice (some ⟨g, 0, none⟩) 1 c, .int .i64 13] w fun e w' => ∃ g' c', e = .returned (.slice (some ⟨g', 0, none⟩) 13 c') ∧ Below w.heap.size w w' := by
  obtain ⟨i0, hi, hz0, hz1, hz2⟩ := info_parts var_info
  obtain ⟨MC, hMs, hM1, hms⟩ := made52 w
  have HB := Lib.hid hb
  have HM1 := Lib.hid hM1
  have HMs := Lib.hid hMs
  clear hb hM1 hMs
  go_enter Tryz.func25, Tryz.ntmps25
  go_wp2_with (first
    | (go_at_call 46; (with_reducible refine (mul_13 _).mono ?_); rintro e w' ⟨rfl, rfl⟩)
    | (refine wpList_copy_rowN rfl _ _ 29 29 rfl 37 4 Tryz.underlying29 var_size w.heap.size 0 13 13 ⟨g, 0, none⟩ 1 c (by rfl) (by rfl) MC 37 (by exact heap_alloc_new w _) (flat [x]) (by rw [flat_len]; rfl) (by exact (HB.out.al _).rowV) (by rw [HMs.out, flat_len]; simp) (flat_one _) ?_))
  obtain ⟨X1, X2⟩ := rowN_set (cs := flat [x]) (o := 0) (heap_alloc_new w (.cells MC 37)) HMs.out HM1.out (flat_one _) (by rw [flat_len]; simp)
  have X3 : Below w.heap.size w ((w.alloc (.cells MC 37)).setRow w.heap.size (MC.toList.take 0 ++ flat [x] ++ MC.toList.drop (0 + (flat [x]).length)).toArray) := ((Below.refl _ w).alloc (Nat.le_refl _) _).grown X2 (by simp) (fun j hj => by cases hj; exact Nat.le_refl _)
  simp only [List.take_zero, List.nil_append, Nat.zero_add] at X1 X2 X3 ⊢
  generalize ((w.alloc (.cells MC 37)).setRow w.heap.size (flat [x] ++ MC.toList.drop (flat [x]).length).toArray) = W1 at X1 X3 ⊢
  have HX1 := Lib.hid X1
  have HX3 := Lib.hid X3
  clear X1 X2 X3 HB HM1 HMs hms
  go_wp2_with fail
  go_loopw [8] (fun vi wr => ∃ k : Nat, (k = 1 ∨ k = 2 ∨ k = 4 ∨ k = 8 ∨ k = 13) ∧ vi = .int .i64 k ∧ RowN wr w.heap.size ∧ Below w.heap.size w wr) (fun vi _ => 13 - (intOf vi).toNat)
  case atStart => exact ⟨1, by omega, rfl, HX1.out, HX3.out⟩
  case round =>
    obtain ⟨k, hk, rfl, ⟨cur, hb, hs, h1⟩, hbr⟩ := hrel
    have HB := Lib.hid hb
    have HS := Lib.hid hs
    have H1 := Lib.hid h1
    have HW := Lib.hid hbr
    have hw0 := hbr.size
    clear hb hs h1 hbr
    rcases hk with rfl | rfl | rfl | rfl | rfl
    · have HA := Lib.hid (copy_src (m := 1) (o := 4) HB.out HS.out H1.out (by decide) (by decide))
      have hcp := run_copy_rowN (P := Tryz.prog) wr.drew 29 29 3 37 4 w.heap.size 4 12 12 ⟨w.heap.size, 0, none⟩ 1 13 cur 37 (cur.toList.take 4) Tryz.underlying29 var_size HB.out HA.out.1 HA.out.2.1 HA.out.2.2.2 HA.out.2.2.1
      obtain ⟨Y1, Y2⟩ := rowN_set (w := wr.drew) (cs := cur.toList.take 4) (o := 4) HB.out HS.out H1.out HA.out.2.2.1 (by have := HA.out.2.2.2; rw [HS.out] at this; exact this)
      generalize (wr.drew.setRow w.heap.size (cur.toList.take 4 ++ cur.toList.take 4 ++ cur.toList.drop (4 + (cur.toList.take 4).length)).toArray) = W2 at hcp Y1 Y2
      have HY1 := Lib.hid Y1
      have HY2 := Lib.hid Y2
      clear Y1 Y2 HA
      go_wp2_with fail
      go_region
      go_wp2_with fail
      go_roundw
      case rel => exact ⟨2, by omega, by simp, HY1.out, (HW.out.drew).grown HY2.out hw0 (fun j hj => by cases hj; exact Nat.le_refl _)⟩
      case measure => simp [intOf]
    · have HA := Lib.hid (copy_src (m := 2) (o := 8) HB.out HS.out H1.out (by decide) (by decide))
      have hcp := run_copy_rowN (P := Tryz.prog) wr.drew 29 29 3 37 4 w.heap.size 8 11 11 ⟨w.heap.size, 0, none⟩ 2 13 cur 37 (cur.toList.take 8) Tryz.underlying29 var_size HB.out HA.out.1 HA.out.2.1 HA.out.2.2.2 HA.out.2.2.1
      obtain ⟨Y1, Y2⟩ := rowN_set (w := wr.drew) (cs := cur.toList.take 8) (o := 8) HB.out HS.out H1.out HA.out.2.2.1 (by have := HA.out.2.2.2; rw [HS.out] at this; exact this)
      generalize (wr.drew.setRow w.heap.size (cur.toList.take 8 ++ cur.toList.take 8 ++ cur.toList.drop (8 + (cur.toList.take 8).length)).toArray) = W2 at hcp Y1 Y2
      have HY1 := Lib.hid Y1
      have HY2 := Lib.hid Y2
      clear Y1 Y2 HA
      go_wp2_with fail
      go_region
      go_wp2_with fail
      go_roundw
      case rel => exact ⟨4, by omega, by simp, HY1.out, (HW.out.drew).grown HY2.out hw0 (fun j hj => by cases hj; exact Nat.le_refl _)⟩
      case measure => simp [intOf]
    · have HA := Lib.hid (copy_src (m := 4) (o := 16) HB.out HS.out H1.out (by decide) (by decide))
      have hcp := run_copy_rowN (P := Tryz.prog) wr.drew 29 29 3 37 4 w.heap.size 16 9 9 ⟨w.heap.size, 0, none⟩ 4 13 cur 37 (cur.toList.take 16) Tryz.underlying29 var_size HB.out HA.out.1 HA.out.2.1 HA.out.2.2.2 HA.out.2.2.1
      obtain ⟨Y1, Y2⟩ := rowN_set (w := wr.drew) (cs := cur.toList.take 16) (o := 16) HB.out HS.out H1.out HA.out.2.2.1 (by have := HA.out.2.2.2; rw [HS.out] at this; exact this)
      generalize (wr.drew.setRow w.heap.size (cur.toList.take 16 ++ cur.toList.take 16 ++ cur.toList.drop (16 + (cur.toList.take 16).length)).toArray) = W2 at hcp Y1 Y2
      have HY1 := Lib.hid Y1
      have HY2 := Lib.hid Y2
      clear Y1 Y2 HA
      go_wp2_with fail
      go_region
      go_wp2_with fail
      go_roundw
      case rel => exact ⟨8, by omega, by simp, HY1.out, (HW.out.drew).grown HY2.out hw0 (fun j hj => by cases hj; exact Nat.le_refl _)⟩
      case measure => simp [intOf]
    · have HA := Lib.hid (copy_src (m := 5) (o := 32) HB.out HS.out H1.out (by decide) (by decide))
      have hcp := run_copy_rowN (P := Tryz.prog) wr.drew 29 29 3 37 4 w.heap.size 32 5 5 ⟨w.heap.size, 0, none⟩ 8 13 cur 37 (cur.toList.take 20) Tryz.underlying29 var_size HB.out HA.out.1 HA.out.2.1 HA.out.2.2.2 HA.out.2.2.1
      obtain ⟨Y1, Y2⟩ := rowN_set (w := wr.drew) (cs := cur.toList.take 20) (o := 32) HB.out HS.out H1.out HA.out.2.2.1 (by have := HA.out.2.2.2; rw [HS.out] at this; exact this)
      generalize (wr.drew.setRow w.heap.size (cur.toList.take 32 ++ cur.toList.take 20 ++ cur.toList.drop (32 + (cur.toList.take 20).length)).toArray) = W2 at hcp Y1 Y2
      have HY1 := Lib.hid Y1
      have HY2 := Lib.hid Y2
      clear Y1 Y2 HA
      go_wp2_with fail
      go_region
      go_wp2_with fail
      go_roundw
      case rel => exact ⟨13, by omega, by simp, HY1.out, (HW.out.drew).grown HY2.out hw0 (fun j hj => by cases hj; exact Nat.le_refl _)⟩
      case measure => simp [intOf]
    · go_wp2_with fail
      go_ret
      exact ⟨_, _, rfl, HW.out⟩
end Go.Proofs.YtaognphegancbaaGreatDoor
