/- vars: vars.Same. -/
import Derived.Test.YtaognphegancbaaGreatDoorWD
import Derived.LoopTactic
namespace Go.Proofs.YtaognphegancbaaGreatDoor
set_option linter.unusedVariables false
set_option linter.unusedSimpArgs false
open Go.RowKit Go.Maps Go.WideMaps
open Fl (nanB canon qnan sg rg negW)
theorem clos42 (x y : VarD) (w : World) : Calls Tryz.prog 42 #[.agg #[.string x.name, .bool x.num, .string x.text, .float .f64 x.flt], .agg #[.string y.name, .bool y.num, .string y.text, .float .f64 y.flt]] w fun e w' => e = .returned (.bool (varEq x y)) ∧ Below w.heap.size w w' := by
  have HS := Lib.hid (fun w => sameval_calls x.num y.num x.text y.text x.flt y.flt w)
  unfold varEq
  generalize sameB x.num x.text x.flt y.num y.text y.flt = sb at HS ⊢
  go_enter Tryz.func42, Tryz.ntmps42
  go_wp2_with (go_at_call 13; (with_reducible refine (HS.out _).mono ?_); rintro e w' ⟨rfl, hb⟩)
  · go_ret
    exact ⟨ret_bool (by simp [*]), (((Below.refl w.heap.size w).alloc (Nat.le_refl _) _).alloc (by simp) _).trans (hb.mono (by simp; omega))⟩
  · go_ret
    exact ⟨ret_bool (by simp [*]), ((Below.refl w.heap.size w).alloc (Nat.le_refl _) _).alloc (by simp) _⟩
set_option maxRecDepth 100000 in
theorem equalfunc42 (g1 c1 g2 c2 n m : Nat) (xs ys : List VarD) (w : World) (h1 : Blk w g1 c1 xs) (h2 : Blk w g2 c2 ys) (hn : n = xs.length) (hm : m = ys.length) (hf : n ≤ 1000) (hf2 : m ≤ 1000) :
    Calls Tryz.prog 17 #[.slice (some ⟨g1, 0, none⟩) n c1, .slice (some ⟨g2, 0, none⟩) m c2, .func (.func 42) #[] #[]] w fun e w' => e = .returned (.bool (eqAll xs ys)) ∧ Below w.heap.size w w' := by
  have HB1 := Lib.hid h1
  have HB2 := Lib.hid h2
  have HN := Lib.hid hn
  have HM := Lib.hid hm
  have l1 := h1.lt
  have l2 := h2.lt
  clear h1 h2 hn hm
  by_cases he : n = m
  · subst he
    have HE := Lib.hid (show eqAll xs ys = (xs.zip ys).all (fun p => varEq p.1 p.2) by unfold eqAll; rw [← HN.out, ← HM.out]; simp)
    have hne : ((n : Int) != (n : Int)) = false := by simp
    go_enter Tryz.func17, Tryz.ntmps17
    go_wp2_with fail
    go_loopw [17] (fun i wr => ∃ k : Nat, k ≤ n ∧ i = .int .i64 k ∧ ((xs.take k).zip (ys.take k)).all (fun p => varEq p.1 p.2) = true ∧ Below w.heap.size w wr) (fun i _ => n - (intOf i).toNat)
    case atStart => exact ⟨0, by omega, rfl, rfl, Below.refl _ _⟩
    case round =>
      obtain ⟨k, hk, rfl, hall, hbr⟩ := hrel
      have HA := Lib.hid hall
      have HW := Lib.hid hbr
      have hsz := hbr.size
      clear hall hbr
      by_cases hlt : k < n
      · obtain ⟨x, hx⟩ : ∃ x, xs[k]? = some x := ⟨_, List.getElem?_eq_getElem (by have := HN.out; omega)⟩
        obtain ⟨y, hy⟩ : ∃ y, ys[k]? = some y := ⟨_, List.getElem?_eq_getElem (by have := HM.out; omega)⟩
        obtain ⟨a0, a1, a2, a3⟩ := (HB1.out.bel HW.out).at4 x hx
        obtain ⟨b0, b1, b2, b3⟩ := (HB2.out.bel HW.out).at4 y hy
        have hg1 : g1 < wr.heap.size := by omega
        have hg2 : g2 < wr.heap.size := by omega
        have HX := Lib.hid hx
        have HY := Lib.hid hy
        have hmem : (x, y) ∈ xs.zip ys := List.mem_of_getElem? (i := k) (by rw [List.getElem?_zip_eq_some]; exact ⟨hx, hy⟩)
        have HCl := Lib.hid (fun w => clos42 x y w)
        cases hv : varEq x y with
        | true =>
          have HV := Lib.hid hv
          rw [hv] at HCl
          have HT := Lib.hid (zip_take hx hy)
          clear hx hy hv hmem
          go_wp2_with (go_at_call 42; (with_reducible refine (HCl.out _).mono ?_); rintro e w' ⟨rfl, hb⟩)
          go_roundw
          case rel => exact ⟨k + 1, by omega, by go_num, by rw [HT.out, List.all_append, HA.out]; simp [HV.out], HW.out.trans ((((Below.refl wr.heap.size wr).alloc (Nat.le_refl _) _).alloc (by simp) _ |>.trans (hb.mono (by simp; omega))).mono hsz)⟩
          case measure => simp [intOf]; omega
        | false =>
          have HR := Lib.hid (show eqAll xs ys = false by
            rw [HE.out, Bool.eq_false_iff]
            intro h
            have := List.all_eq_true.1 h _ hmem
            rw [hv] at this
            cases this)
          rw [hv] at HCl
          clear hx hy hv hmem
          go_wp2_with (go_at_call 42; (with_reducible refine (HCl.out _).mono ?_); rintro e w' ⟨rfl, hb⟩)
          go_ret
          exact ⟨ret_bool HR.out.symm, HW.out.trans ((((Below.refl wr.heap.size wr).alloc (Nat.le_refl _) _).alloc (by simp) _ |>.trans (hb.mono (by simp; omega))).mono hsz)⟩
      · have HR := Lib.hid (show eqAll xs ys = true by
          rw [HE.out]
          have := HA.out
          rwa [List.take_of_length_le (by have := HN.out; omega), List.take_of_length_le (by have := HM.out; omega)] at this)
        go_wp2_with fail
        go_ret
        exact ⟨ret_bool HR.out.symm, HW.out⟩
  · have HR := Lib.hid (show eqAll xs ys = false by unfold eqAll; rw [← HN.out, ← HM.out]; simp [he])
    have hne : ((n : Int) != (m : Int)) = true := by simp; omega
    clear he
    go_enter Tryz.func17, Tryz.ntmps17
    go_wp2_with fail
    go_ret
    exact ⟨ret_bool HR.out.symm, Below.refl _ _⟩
set_option maxRecDepth 100000 in
theorem vsame_calls {w : World} {S BM L F cl cf S2 BM2 L2 F2 cl2 cf2 : Nat} {cur fst cur2 fst2 : List VarD} (h : IsStore w S BM L F cl cf cur fst) (h2 : IsStore w S2 BM2 L2 F2 cl2 cf2 cur2 fst2) (hf : cur.length ≤ 1000) (hf2 : cur2.length ≤ 1000) :
    Calls Tryz.prog 20 #[.pointer (some ⟨S, 0, none⟩), .pointer (some ⟨S2, 0, none⟩)] w fun e w' => e = .returned (.bool (eqAll cur cur2)) ∧ Below w.heap.size w w' := by
  have c0 := h.c0
  have c1 := h.c1
  have d0 := h2.c0
  have d1 := h2.c1
  have HE := Lib.hid (fun (w' : World) (hb : Below w.heap.size w w') => equalfunc42 L cl L2 cl2 cur.length cur2.length cur cur2 w' (h.own.bel hb) (h2.own.bel hb) rfl rfl hf hf2)
  clear h h2 hf hf2
  generalize eqAll cur cur2 = eb at HE ⊢
  generalize cur.length = n1 at c0 HE
  generalize cur2.length = n2 at d0 HE
  go_enter Tryz.func20, Tryz.ntmps20
  go_wp2_with (first
    | (go_at_call 38; (with_reducible refine (none_calls _ (.int .i64 0) (.int .i64 0) _ _ c1).mono ?_); rintro e w' ⟨rfl, rfl⟩)
    | (go_at_call 38; (with_reducible refine (none_calls _ (.int .i64 0) (.int .i64 0) _ _ d1).mono ?_); rintro e w' ⟨rfl, rfl⟩))
  have K1 := cell_regrown c0
  have K2 := cell_regrown d0
  have HCS := Lib.hid (fun d os => Calls.regrown_of (w := w) (d := d) (os := os) (HE.out _ (below_regrown w d os)))
  clear HE c0 c1 d0 d1
  refine wp_region_quiet_below (by kernel_rfl) (by kernel_rfl) ?_
  repeat (quiet_step (exact HCS.out _ _))
  refine wpQuiet_nil ?_
  intro w5 hw5
  have hb5 : Below w.heap.size w w5 := by
    obtain ⟨p, rfl⟩ := hw5
    exact below_regrown _ _ _
  clear hw5 K1 K2
  go_wp2_with fail
  go_ret
  exact ⟨rfl, hb5⟩
end Go.Proofs.YtaognphegancbaaGreatDoor
