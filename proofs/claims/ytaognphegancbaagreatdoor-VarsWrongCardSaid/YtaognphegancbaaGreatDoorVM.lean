/- vars: copy at variables; Reset. -/
import Derived.Test.YtaognphegancbaaGreatDoorVL
import Derived.Laws.CopyOwn
namespace Go.Proofs.YtaognphegancbaaGreatDoor
set_option linter.unusedVariables false
set_option linter.unusedSimpArgs false
open Go.RowKit Go.Maps Go.WideMaps
theorem run_copy_rowN {P : Program} (w : World) (dT sT ty elem : TypeId) (sz g o dLen dCap : Nat) (a : Addr) (sLen sCap : Nat) (cur : Array Value) (t : TypeId) (cs : List Value)
    (hu : P.underlying dT = some (.slice elem)) (hs : (P.info? elem).map (·.size) = some sz)
    (hg : w.heap[g]? = some (.cells cur t (0, 0))) (hn : cs.length = Nat.min sLen dLen * sz)
    (hsrc : ∀ j v, cs[j]? = some v → w.cell? (a.add j) = some v) (hfit : o + cs.length ≤ cur.size) (h1 : ∀ v ∈ cs, v.oneCell' = true) :
    (Builtin.copy_ #[dT, sT] ty #[.slice (some ⟨g, o, none⟩) dLen dCap, .slice (some a) sLen sCap]).run P w =
      .ok (goInt (Nat.min sLen dLen)) (w.setRow g (cur.toList.take o ++ cs ++ cur.toList.drop (o + cs.length)).toArray) := by
  have hl := run_loadCells_list (P := P) w a cs hsrc
  have hst := run_storeCells_at P g o t cs 0 cur w hg (by simpa using hfit) h1
  cases hq : P.info? elem with
  | none => simp [hq] at hs
  | some i =>
    have hi : i.size = sz := by simpa [hq] using hs
    simp [Builtin.copy_, run_underlying hu, Builtin.lenOf, Builtin.firstCells, sizeOf, typeInfo, hq, hi, ← hn, hl, hst]
theorem wpList_copy_rowN {P : Program} {w : World} {ops : Array Oper} {rest : List Oper} {o : Oper} {a : Act} {Q : Exit → Act → World → Prop} (hgd : o.guard = none) (d s : Operand) (dT sT : TypeId)
    (ho : o.op = .call { callee := .builtin .copy, args := #[d, s], argTypes := #[dT, sT] }) (elem : TypeId) (sz : Nat) (hu : P.underlying dT = some (.slice elem)) (hsz : (P.info? elem).map (·.size) = some sz)
    (g off dLen dCap : Nat) (ad : Addr) (sLen sCap : Nat) (hd : a.eval d = .slice (some ⟨g, off, none⟩) dLen dCap) (hs : a.eval s = .slice (some ad) sLen sCap)
    (cur : Array Value) (t : TypeId) (hg : w.heap[g]? = some (.cells cur t (0, 0))) (cs : List Value) (hn : cs.length = Nat.min sLen dLen * sz)
    (hsrc : ∀ j v, cs[j]? = some v → w.cell? (ad.add j) = some v) (hfit : off + cs.length ≤ cur.size) (h1 : ∀ v ∈ cs, v.oneCell' = true)
    (h : wpList P ops Q rest (a.put o.dst (goInt (Nat.min sLen dLen))) (w.setRow g (cur.toList.take off ++ cs ++ cur.toList.drop (off + cs.length)).toArray)) : wpList P ops Q (o :: rest) a w := by
  refine wpList_plain hgd fun K hK => ?_
  have hrun := run_copy_rowN (P := P) w dT sT o.type elem sz g off dLen dCap ad sLen sCap cur t cs hu hsz hg hn hsrc hfit h1
  unfold Oper.wp
  simp only [execOp, ho, resolve, invoke, builtin, Sem.run_bind, Sem.run_pure, Result.andThen_ok, List.map_toArray, List.map_cons, List.map_nil, hd, hs, hrun]
  exact hK _ _ h
theorem var_size : (Tryz.prog.info? 37).map (·.size) = some 4 := by kernel_rfl
theorem blk_setRow {w : World} {L cl : Nat} {cur fst : List VarD} {cells : Array Value} (hb : w.heap[L]? = some (.cells cells 37 (0, 0))) (h1 : cur.length ≤ cl) (h2 : cl ≤ maxLen) (h3 : cells.size = cl * 4) (hl : fst.length = cur.length) :
    Blk (w.setRow L (cells.toList.take 0 ++ flat fst ++ cells.toList.drop (0 + (flat fst).length)).toArray) L cl fst := by
  refine ⟨_, setRow_heap w L cells _ _ _ hb, by omega, h2, ?_, ?_⟩
  · simp only [List.take_zero, List.nil_append, Nat.zero_add, List.size_toArray, List.length_append, List.length_drop, Array.length_toList, flat_len]
    omega
  · simp only [List.take_zero, List.nil_append]
    rw [← flat_len fst, List.take_left']
    rfl
set_option maxRecDepth 100000 in
theorem reset_store {w : World} {S BM L F cl cf : Nat} {cur fst : List VarD} (h : IsStore w S BM L F cl cf cur fst) (hl : fst.length = cur.length) (hnames : cur.map (·.name) = fst.map (·.name)) (hf : cur.length ≤ 1000) :
    Calls Tryz.prog 16 #[.pointer (some ⟨S, 0, none⟩)] w fun e w' => e = .returned (.int .i64 0) ∧ IsStore w' S BM L F cl cf fst fst ∧ w.grownBy w' (some L) := by
  have c0 := h.c0
  have c1 := h.c1
  have c2 := h.c2
  have H := Lib.hid h
  obtain ⟨cells, hb, q1, q2, q3, q4⟩ := h.own
  have HB := Lib.hid hb
  have Q3 := Lib.hid q3
  have HL := Lib.hid hl
  have HN := Lib.hid hnames
  clear h hb q3 q4 hl hnames
  go_enter Tryz.func16, Tryz.ntmps16
  go_wp2_with (go_at_call 38; (with_reducible refine (none_calls _ (.int .i64 0) (.int .i64 0) BM _ c1).mono ?_); rintro e w' ⟨rfl, rfl⟩)
  refine still_tail_d 9 (by kernel_rfl) (by kernel_rfl) ?_
  simp only [List.take_succ_cons, List.take_zero, List.drop_succ_cons, List.drop_zero]
  repeat still_step
  refine wpStill_nil ?_
  refine wpList_copy_rowN rfl _ _ 29 29 rfl 37 4 Tryz.underlying29 var_size L 0 cur.length cl ⟨F, 0, none⟩ fst.length cf rfl rfl cells 37 HB.out (flat fst) (by rw [flat_len, HL.out]; simp [Nat.min_def]) H.out.fir.rowV (by rw [flat_len, Q3.out, HL.out]; omega) (flat_one fst) ?_
  have X1 := blk_setRow (w := w.drew) (fst := fst) HB.out q1 q2 Q3.out HL.out
  have X2 : w.grownBy (w.drew.setRow L (cells.toList.take 0 ++ flat fst ++ cells.toList.drop (0 + (flat fst).length)).toArray) (some L) := ⟨rfl, rfl, rfl, by simp [World.setRow], fun i hi hne => setRow_other w.drew L i _ (by simpa using hne)⟩
  generalize w.drew.setRow L (cells.toList.take 0 ++ flat fst ++ cells.toList.drop (0 + (flat fst).length)).toArray = W at X1 X2
  have HX1 := Lib.hid X1
  have HX2 := Lib.hid X2
  clear X1 X2
  go_wp2
  go_ret
  obtain ⟨n1, n2, n3, n4, n5⟩ := H.out.neS
  refine ⟨rfl, ⟨?_, ?_, HX1.out, H.out.fir.move (HX2.out.block F H.out.fir.lt (by simpa using Ne.symm H.out.ne)), H.out.ne⟩, HX2.out⟩
  · rw [HL.out]
    have := (HX2.out.block S (Array.getElem?_eq_some_iff.1 H.out.box).1 (by simpa using n1)).trans H.out.box
    rw [HL.out] at this
    exact this
  · rw [← HN.out]
    exact H.out.map.move (HX2.out.block BM H.out.map.lt (by simpa using n3))
end Go.Proofs.YtaognphegancbaaGreatDoor
