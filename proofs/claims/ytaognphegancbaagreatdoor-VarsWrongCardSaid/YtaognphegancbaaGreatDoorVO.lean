/- vars: Changed. -/
import Derived.Test.YtaognphegancbaaGreatDoorVN
namespace Go.Proofs.YtaognphegancbaaGreatDoor
set_option linter.unusedVariables false
set_option linter.unusedSimpArgs false
open Go.RowKit Go.Maps Go.WideMaps Go.Shelf
attribute [local go_sem] Oper.semAt_some
theorem str_info : (Tryz.prog.info? 9).map (fun i => (i.zero, i.size, i.bytes)) = some (some (.string ⟨#[]⟩), 1, 16) := by kernel_rfl
theorem changed_calls (S : Nat) (w : World) : Calls Tryz.prog 40 #[.pointer (some ⟨S, 0, none⟩)] w fun e w' => e = .returned (.func (.func 62) #[] #[.pointer (some ⟨w.heap.size, 0, none⟩)]) ∧ w.alloc (.cells #[.pointer (some ⟨S, 0, none⟩)] 28) = w' := by
  go_enter Tryz.func40, Tryz.ntmps40
  go_wp2
  go_ret
  exact ⟨rfl, rfl⟩
theorem changed_stops (n Bn n₀ S BM L F cl cf : Nat) (hn : 3 ≤ n) (cur fst : List VarD) (w : World) (hst : IsStore w S BM L F cl cf cur fst) (hl : fst.length = cur.length) (hf : cur.length ≤ 1000)
    (hS : S < n₀) (hBM : BM < n₀) (hL : L < n₀) (hF : F < n₀) (hn₀ : n₀ ≤ w.heap.size) (hbox : Boxed w Bn 28 (.pointer (some ⟨S, 0, none⟩))) :
    SeqStopsK Fence.wide n Tryz.prog 62 #[.pointer (some ⟨Bn, 0, none⟩)] (fun x : ByteArray => #[Value.string x]) (KpB n₀ Bn) (fun ys => ys = chg (cur.zip fst)) (fun _ => True) cur.length w := fun l J Jx W hW hJ _ hY h0 =>
  changed1_in n l Bn n₀ S BM L F cl cf hn cur fst W (hst.bel hW) hl hf hS hBM hL hF (Nat.le_trans hn₀ hW.size) (boxed_bel hbox hW) J Jx hJ hY h0
set_option maxRecDepth 100000 in
set_option maxHeartbeats 2000000 in
theorem changed_in (S BM L F cl cf : Nat) (cur fst : List VarD) (w : World) (hst : IsStore w S BM L F cl cf cur fst) (hl : fst.length = cur.length) (hf : cur.length ≤ 1000) :
    CallsIn Fence.wide 6 Tryz.prog 15 #[.pointer (some ⟨S, 0, none⟩)] w fun e W' => ∃ v, e = .returned v ∧ W'.ownsRow w.heap.size 9 1 v (chg (cur.zip fst)).length ((chg (cur.zip fst)).map Value.string) ∧ (v = .slice none 0 0 ↔ chg (cur.zip fst) = []) ∧ Below w.heap.size w W' := by
  have c1 := hst.c1
  have HST := Lib.hid hst
  have lS : S < w.heap.size := (Array.getElem?_eq_some_iff.1 hst.box).1
  have lB := hst.map.lt
  have lL := hst.own.lt
  have lF := hst.fir.lt
  have HL := Lib.hid hl
  clear hst hl
  obtain ⟨i0, hi, hz0, hz1, hz2⟩ := info_parts str_info
  have HI := Lib.hid hi
  have H0 := Lib.hid hz0
  have H1 := Lib.hid hz1
  have H2 := Lib.hid hz2
  clear hi hz0 hz1 hz2
  have w38 : Fence.wide.fn 38 := trivial
  have w40 : Fence.wide.fn 40 := trivial
  refine callsIn_of_wp_marks Tryz.func15 rfl trivial ?_ rfl
  simp only [Tryz.ntmps15, List.size_toArray, List.length_cons, List.length_nil, Nat.reduceAdd, Nat.reduceSub, Array.replicate_succ, Array.replicate_zero, List.push_toArray, List.append_toArray, List.nil_append, List.cons_append]
  gi_wp2_with (first
    | (gi_at_call 38; (with_reducible refine (CallsIn.mono (callsIn_wide.2 (none_calls _ (.int .i64 0) (.int .i64 0) BM _ c1)) ?_)); rintro e w' ⟨rfl, rfl⟩)
    | (gi_at_call 40; (with_reducible refine (CallsIn.mono (callsIn_wide.2 (changed_calls _ _)) ?_)); rintro e w' ⟨rfl, rfl⟩))
  have bO := Boxed.new w 45 (.slice none 0 0)
  have bN := Boxed.new (w.alloc (.cells #[.slice none 0 0] 45)) 28 (.pointer (some ⟨S, 0, none⟩))
  rw [World.size_alloc] at bN
  have hB0 : Below w.heap.size w ((w.alloc (.cells #[.slice none 0 0] 45)).alloc (.cells #[.pointer (some ⟨S, 0, none⟩)] 28)) := ((Below.refl _ w).alloc (Nat.le_refl _) _).alloc (by simp) _
  have hseq := changed_stops 5 (w.heap.size + 1) w.heap.size S BM L F cl cf (by omega) cur fst _ (HST.out.bel hB0) HL.out hf lS lB lL lF (by simp; omega) bN
  refine wpIn_rangeFunc_ownG rfl (by omega) (gf := 62) (lb := #[.pointer (some ⟨w.heap.size + 1, 0, none⟩)]) rfl trivial (enters_of Tryz.func62 (by kernel_rfl) rfl)
    hseq KpB.t (KpB.b (by simp; omega) (by simp)) (Below.refl _ _) (fun _ => rfl)
    (fun pre W => (∃ v, Boxed W w.heap.size 45 v ∧ W.ownsRow w.heap.size 9 1 v pre.length (pre.map Value.string) ∧ (v = .slice none 0 0 ↔ pre = [])) ∧ (Below w.heap.size w W ∧ Boxed W (w.heap.size + 1) 28 (.pointer (some ⟨S, 0, none⟩))))
    (fun _ _ _ => False)
    (OwnFrom.and (Own.from (holdsRow_own w.heap.size w.heap.size 45 9 1 (fun pre : List ByteArray => pre.length) (fun pre => pre.map Value.string) (fun pre v => v = .slice none 0 0 ↔ pre = [])) _) (OwnFrom.and (ownFrom_below (Nat.le_refl _) (by simp; omega)) (Own.from (boxed_own (w.heap.size + 1) 28 (fun _ => .pointer (some ⟨S, 0, none⟩))) _)))
    (fun _ _ _ _ _ hs _ _ => hs)
    ⟨⟨_, bO.alloc _, World.ownsRow_nil _ _ _ _, by simp⟩, hB0, bN⟩
    (fun x => { tmps := #[.pointer (some ⟨S, 0, none⟩), undef, .slice none 0 0, .pointer (some ⟨w.heap.size, 0, none⟩), .string x, .pointer (some ⟨S, 0, none⟩), .bool false, .pointer (some ⟨S, 0, none⟩), .func (.func 62) #[] #[.pointer (some ⟨w.heap.size + 1, 0, none⟩)], .string x, undef, undef, undef, undef, undef], defers := [] }) ?assign ?body ?done ?stop
  case assign =>
    intro l x W K hK
    gi_wp2
    exact hK
  case body =>
    rintro l pre x W ⟨⟨v, hv, hrow, hnil⟩, hB, hbn⟩ hlt
    have HBn := Lib.hid hbn
    clear hbn
    have hc := hv.cell
    have HN := Lib.hid hnil
    have hpl : pre.length ≤ 1000 := by omega
    have HHI := HI.out
    gi_wp2_with (gi_at_builtin; refine wpListIn_append_own _ rfl _ _ 45 rfl w.heap.size 9 i0 (.string ⟨#[]⟩) 1 16 Tryz.underlying45 HI.out H0.out H1.out H2.out rfl (by decide) _ _ _ rfl (hrow.alloc _) ⟨W.heap.size, 0, none⟩ 1 1 [.string x] rfl rfl (cell_one_new _ _ _) (by simp [Value.oneCell']) (by unfold maxLen; omega) (by omega) (by have := hB.size; simp; omega) ?_; intro v' w1 hown' hgrow _; obtain ⟨g', cap', rfl⟩ := ownsRow_succ hown'; obtain ⟨hv1, hv2, hr2, hk2, hb2⟩ := hv.appended (by decide) hrow hB.size (Nat.le_refl _) hown' hgrow; have hc1 := hv1.cell; have hf1 := hv1.frozen; have HNe := Lib.hid (HBn.out.not_row (by decide) hrow); have HG := Lib.hid hgrow)
    have hbn : (w1.setCell ⟨w.heap.size, 0, none⟩ (.slice (some ⟨g', 0, none⟩) (pre.length + 1) cap')).heap[w.heap.size + 1]? = W.heap[w.heap.size + 1]? := by
      rw [Below.heap_setCell _ _ _ _ (by simp)]
      exact (HG.out.block _ (by have := HBn.out.lt; simp; omega) HNe.out).trans (Below.heap_alloc _ _ _ HBn.out.lt)
    exact ⟨hk2.from _, ⟨hb2, hbn⟩, ⟨_, hv2, by simpa using hr2, by simp⟩, hB.trans hb2, hbn.trans HBn.out⟩
  case done =>
    rintro D ys W hD rfl ⟨⟨v, hv, hrow, hnil⟩, hB, _⟩ hK
    have hc := hv.cell
    gi_wp2
    refine ⟨by simp, .inl ⟨_, _, rfl, run_takeDeferred hK, ?_⟩⟩
    exact ⟨_, results_tmp rfl _ _ _, v, rfl, ownsRow_putObj hrow _ hK rfl, hnil, hB.trans (belowK_b (w := w) (Nat.le_refl _) W D _ _ (by simp at hD; omega) hK rfl rfl)⟩
  case stop =>
    rintro D c pre W _ _ h _
    exact h.elim
end Go.Proofs.YtaognphegancbaaGreatDoor
