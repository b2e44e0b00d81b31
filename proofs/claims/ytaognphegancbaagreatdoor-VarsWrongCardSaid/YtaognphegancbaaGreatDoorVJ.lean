/- vars: Check's closure; ContainsFunc with it. -/
import Derived.Test.YtaognphegancbaaGreatDoorVI
namespace Go.Proofs.YtaognphegancbaaGreatDoor
set_option linter.unusedVariables false
set_option linter.unusedSimpArgs false
open Go.RowKit Go.Maps Go.WideMaps
theorem clos45 (x : VarD) (v : Nat) (nm : ByteArray) (w : World) (h0 : w.cell? ⟨v, 0, none⟩ = some (.string nm)) :
    Calls Tryz.prog 45 #[.agg #[.string x.name, .bool x.num, .string x.text, .float .f64 x.flt], .pointer (some ⟨v, 0, none⟩)] w fun e w' => e = .returned (.bool (x.name.toList == nm.toList)) ∧ Below w.heap.size w w' := by
  have hv := World.block_lt_of_cell? w _ h0
  go_enter Tryz.func45, Tryz.ntmps45
  go_wp2
  go_ret
  exact ⟨rfl, (Below.refl w.heap.size w).alloc (Nat.le_refl _) _⟩
def hasName (xs : List VarD) (nm : ByteArray) : Bool := xs.any (fun x => x.name.toList == nm.toList)
def Found (b : Bool) (r : Int) : Prop := (b = true ∧ 0 ≤ r ∧ r ≤ 1000) ∨ (b = false ∧ r = -1)
theorem take_any {xs : List VarD} {k : Nat} {x : VarD} {p : VarD → Bool} (hx : xs[k]? = some x) (h : (xs.take k).any p = false) (hp : p x = false) : (xs.take (k + 1)).any p = false := by
  rw [List.take_add_one, hx, List.any_append, h]
  simp [hp]
set_option maxRecDepth 100000 in
theorem indexfunc (g c n : Nat) (xs : List VarD) (v : Nat) (nm : ByteArray) (w : World) (h1 : Blk w g c xs) (h0 : w.cell? ⟨v, 0, none⟩ = some (.string nm)) (hn : n ≤ xs.length) (hf : n ≤ 1000) :
    Calls Tryz.prog 66 #[.slice (some ⟨g, 0, none⟩) n c, .func (.func 45) #[] #[.pointer (some ⟨v, 0, none⟩)]] w fun e w' => ∃ r, e = .returned (.int .i64 r) ∧ Found (hasName (xs.take n) nm) r ∧ Below w.heap.size w w' := by
  have HB := Lib.hid h1
  have H0 := Lib.hid h0
  have l1 := h1.lt
  have l0 := World.block_lt_of_cell? w _ h0
  clear h1 h0
  go_enter Tryz.func66, Tryz.ntmps66
  go_wp2_with fail
  go_loopw [8] (fun i wr => ∃ k : Nat, k ≤ n ∧ i = .int .i64 k ∧ (xs.take k).any (fun x => x.name.toList == nm.toList) = false ∧ Below w.heap.size w wr) (fun i _ => n - (intOf i).toNat)
  case atStart => exact ⟨0, by omega, rfl, rfl, Below.refl _ _⟩
  case round =>
    obtain ⟨k, hk, rfl, hall, hbr⟩ := hrel
    have HA := Lib.hid hall
    have HW := Lib.hid hbr
    have hsz := hbr.size
    clear hall hbr
    by_cases hlt : k < n
    · obtain ⟨x, hx⟩ : ∃ x, xs[k]? = some x := ⟨_, List.getElem?_eq_getElem (by omega)⟩
      obtain ⟨a0, a1, a2, a3⟩ := (HB.out.bel HW.out).at4 x hx
      have hg1 : g < wr.heap.size := by omega
      have HX := Lib.hid hx
      have HCl := Lib.hid (clos45 x v nm wr (cell_bel HW.out H0.out))
      clear hx
      cases hv : x.name.toList == nm.toList with
      | true =>
        have HR := Lib.hid (show hasName (xs.take n) nm = true by
          unfold hasName
          rw [List.any_eq_true]
          exact ⟨x, List.mem_of_getElem? (i := k) (by rw [List.getElem?_take, if_pos hlt]; exact HX.out), hv⟩)
        rw [hv] at HCl
        clear hv
        go_wp2_with (go_at_call 45; (with_reducible refine HCl.out.mono ?_); rintro e w' ⟨rfl, hb⟩)
        go_ret
        exact ⟨_, rfl, .inl ⟨HR.out, by omega, by omega⟩, HW.out.trans (hb.mono hsz)⟩
      | false =>
        have HV := Lib.hid hv
        rw [hv] at HCl
        clear hv
        go_wp2_with (go_at_call 45; (with_reducible refine HCl.out.mono ?_); rintro e w' ⟨rfl, hb⟩)
        go_roundw
        case rel => exact ⟨k + 1, by omega, by go_num, take_any HX.out HA.out HV.out, HW.out.trans (hb.mono hsz)⟩
        case measure => simp [intOf]; omega
    · obtain rfl : k = n := by omega
      go_wp2_with fail
      go_ret
      exact ⟨_, rfl, .inr ⟨HA.out, rfl⟩, HW.out⟩
theorem containsfunc (g c n : Nat) (xs : List VarD) (v : Nat) (nm : ByteArray) (w : World) (h1 : Blk w g c xs) (h0 : w.cell? ⟨v, 0, none⟩ = some (.string nm)) (hn : n ≤ xs.length) (hf : n ≤ 1000) :
    Calls Tryz.prog 44 #[.slice (some ⟨g, 0, none⟩) n c, .func (.func 45) #[] #[.pointer (some ⟨v, 0, none⟩)]] w fun e w' => e = .returned (.bool (hasName (xs.take n) nm)) ∧ Below w.heap.size w w' := by
  have HC := Lib.hid (indexfunc g c n xs v nm w h1 h0 hn hf)
  clear h1 h0 hn hf
  go_enter Tryz.func44, Tryz.ntmps44
  go_wp2_with (go_at_call 66; (with_reducible refine HC.out.mono ?_); rintro e w' ⟨r, rfl, hr, hb⟩)
  go_ret
  refine ⟨ret_bool ?_, hb⟩
  rcases hr with ⟨h, h1, _⟩ | ⟨h, rfl⟩
  · rw [h]; simpa using h1
  · rw [h]; rfl
end Go.Proofs.YtaognphegancbaaGreatDoor
