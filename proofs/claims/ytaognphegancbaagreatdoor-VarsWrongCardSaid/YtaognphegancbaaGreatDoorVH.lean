/- vars: two lists compared by a closure. -/
import Derived.Test.YtaognphegancbaaGreatDoorVG
import Derived.LoopTactic
namespace Go.Proofs.YtaognphegancbaaGreatDoor
set_option linter.unusedVariables false
set_option linter.unusedSimpArgs false
open Go.RowKit Go.Maps Go.WideMaps
open Fl (nanB canon qnan sg rg negW)
def varEq (x y : VarD) : Bool := (x.name.toList == y.name.toList) && sameB x.num x.text x.flt y.num y.text y.flt
def agg (x : VarD) : Value := .agg #[.string x.name, .bool x.num, .string x.text, .float .f64 x.flt]
theorem clos1 (x y : VarD) (w : World) : Calls Tryz.prog 18 #[.agg #[.string x.name, .bool x.num, .string x.text, .float .f64 x.flt], .agg #[.string y.name, .bool y.num, .string y.text, .float .f64 y.flt]] w fun e w' => e = .returned (.bool (varEq x y)) ∧ Below w.heap.size w w' := by
  have HS := Lib.hid (fun w => sameval_calls x.num y.num x.text y.text x.flt y.flt w)
  unfold varEq
  generalize sameB x.num x.text x.flt y.num y.text y.flt = sb at HS ⊢
  go_enter Tryz.func18, Tryz.ntmps18
  go_wp2_with (go_at_call 13; (with_reducible refine (HS.out _).mono ?_); rintro e w' ⟨rfl, hb⟩)
  · go_ret
    exact ⟨ret_bool (by simp [*]), (((Below.refl w.heap.size w).alloc (Nat.le_refl _) _).alloc (by simp) _).trans (hb.mono (by simp; omega))⟩
  · go_ret
    exact ⟨ret_bool (by simp [*]), ((Below.refl w.heap.size w).alloc (Nat.le_refl _) _).alloc (by simp) _⟩
def eqAll (xs ys : List VarD) : Bool := decide (xs.length = ys.length) && (xs.zip ys).all (fun p => varEq p.1 p.2)
theorem zip_take {xs ys : List VarD} {k : Nat} {x y : VarD} (hx : xs[k]? = some x) (hy : ys[k]? = some y) : ((xs.take (k + 1)).zip (ys.take (k + 1))) = (xs.take k).zip (ys.take k) ++ [(x, y)] := by
  rw [List.take_add_one, List.take_add_one, hx, hy]
  have h1 : (xs.take k).length = k := by rw [List.length_take]; have := (List.getElem?_eq_some_iff.1 hx).1; omega
  have h2 : (ys.take k).length = k := by rw [List.length_take]; have := (List.getElem?_eq_some_iff.1 hy).1; omega
  rw [List.zip_append (by rw [h1, h2])]
  rfl
set_option maxRecDepth 100000 in
theorem equalfunc1 (g1 c1 g2 c2 n m : Nat) (xs ys : List VarD) (w : World) (h1 : Blk w g1 c1 xs) (h2 : Blk w g2 c2 ys) (hn : n = xs.length) (hm : m = ys.length) (hf : n ≤ 1000) (hf2 : m ≤ 1000) :
    Calls Tryz.prog 17 #[.slice (some ⟨g1, 0, none⟩) n c1, .slice (some ⟨g2, 0, none⟩) m c2, .func (.func 18) #[] #[]] w fun e w' => e = .returned (.bool (eqAll xs ys)) ∧ Below w.heap.size w w' := by
  have HB1 := Lib.hid h1
  have HB2 := Lib.hid h2
  have HN := Lib.hid hn
  have HM := Lib.hid hm
  have l1 := h1.lt
  have l2 := h2.lt
  clear h1 h2 hn hm
  by_cases he : n = m
  · subst he
    have HE := Lib.hid (show eqAll xs ys = (xs.zip ys).all (fun p => varEq p.1 p.2) by unfold eqAll; rw [← HN.out, ← HM.out]; simp)
    have hne : ((n : Int) != (n : Int)) = false := by simp
    go_enter Tryz.func17, Tryz.ntmps17
    go_wp2_with fail
    go_loopw [17] (fun i wr => ∃ k : Nat, k ≤ n ∧ i = .int .i64 k ∧ ((xs.take k).zip (ys.take k)).all (fun p => varEq p.1 p.2) = true ∧ Below w.heap.size w wr) (fun i _ => n - (intOf i).toNat)
    case atStart => exact ⟨0, by omega, rfl, rfl, Below.refl _ _⟩
    case round =>
      obtain ⟨k, hk, rfl, hall, hbr⟩ := hrel
      have HA := Lib.hid hall
      have HW := Lib.hid hbr
      have hsz := hbr.size
      clear hall hbr
      by_cases hlt : k < n
      · obtain ⟨x, hx⟩ : ∃ x, xs[k]? = some x := ⟨_, List.getElem?_eq_getElem (by have := HN.out; omega)⟩
        obtain ⟨y, hy⟩ : ∃ y, ys[k]? = some y := ⟨_, List.getElem?_eq_getElem (by have := HM.out; omega)⟩
        obtain ⟨a0, a1, a2, a3⟩ := (HB1.out.bel HW.out).at4 x hx
        obtain ⟨b0, b1, b2, b3⟩ := (HB2.out.bel HW.out).at4 y hy
        have hg1 : g1 < wr.heap.size := by omega
        have hg2 : g2 < wr.heap.size := by omega
        have HX := Lib.hid hx
        have HY := Lib.hid hy
        have hmem : (x, y) ∈ xs.zip ys := List.mem_of_getElem? (i := k) (by rw [List.getElem?_zip_eq_some]; exact ⟨hx, hy⟩)
        have HCl := Lib.hid (fun w => clos1 x y w)
        cases hv : varEq x y with
        | true =>
          have HV := Lib.hid hv
          rw [hv] at HCl
          have HT := Lib.hid (zip_take hx hy)
          clear hx hy hv hmem
          go_wp2_with (go_at_call 18; (with_reducible refine (HCl.out _).mono ?_); rintro e w' ⟨rfl, hb⟩)
          go_roundw
          case rel => exact ⟨k + 1, by omega, by go_num, by rw [HT.out, List.all_append, HA.out]; simp [HV.out], HW.out.trans ((((Below.refl wr.heap.size wr).alloc (Nat.le_refl _) _).alloc (by simp) _ |>.trans (hb.mono (by simp; omega))).mono hsz)⟩
          case measure => simp [intOf]; omega
        | false =>
          have HR := Lib.hid (show eqAll xs ys = false by
            rw [HE.out, Bool.eq_false_iff]
            intro h
            have := List.all_eq_true.1 h _ hmem
            rw [hv] at this
            cases this)
          rw [hv] at HCl
          clear hx hy hv hmem
          go_wp2_with (go_at_call 18; (with_reducible refine (HCl.out _).mono ?_); rintro e w' ⟨rfl, hb⟩)
          go_ret
          exact ⟨ret_bool HR.out.symm, HW.out.trans ((((Below.refl wr.heap.size wr).alloc (Nat.le_refl _) _).alloc (by simp) _ |>.trans (hb.mono (by simp; omega))).mono hsz)⟩
      · have HR := Lib.hid (show eqAll xs ys = true by
          rw [HE.out]
          have := HA.out
          rwa [List.take_of_length_le (by have := HN.out; omega), List.take_of_length_le (by have := HM.out; omega)] at this)
        go_wp2_with fail
        go_ret
        exact ⟨ret_bool HR.out.symm, HW.out⟩
  · have HR := Lib.hid (show eqAll xs ys = false by unfold eqAll; rw [← HN.out, ← HM.out]; simp [he])
    have hne : ((n : Int) != (m : Int)) = true := by simp; omega
    clear he
    go_enter Tryz.func17, Tryz.ntmps17
    go_wp2_with fail
    go_ret
    exact ⟨ret_bool HR.out.symm, Below.refl _ _⟩
end Go.Proofs.YtaognphegancbaaGreatDoor
