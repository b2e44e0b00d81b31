/- vars: Check. -/
import Derived.Test.YtaognphegancbaaGreatDoorVJ
namespace Go.Proofs.YtaognphegancbaaGreatDoor
set_option linter.unusedVariables false
set_option linter.unusedSimpArgs false
open Go.RowKit Go.Maps Go.WideMaps
/-- A variable that Check goes past. -/
structure OkAt (xs : List VarD) (k : Nat) (x : VarD) : Prop where
  name : GoodName x.name
  once : hasName (xs.take k) x.name = false
  right : rightB x.num x.text x.flt = true
theorem good_calls {s : ByteArray} (h : GoodName s) (w : World) : Calls Tryz.prog 43 #[.string s] w fun e w' => e = .returned (.bool true) ∧ Below w.heap.size w w' := h w
theorem Blk.al {w : World} {g c : Nat} {xs : List VarD} (h : Blk w g c xs) (o : Obj) : Blk (w.alloc o) g c xs := h.move (Below.heap_alloc w o g h.lt)
theorem bel2 {w w1 w2 : World} (h : Below w.heap.size w w1) (h2 : Below w1.heap.size w1 w2) : Below w.heap.size w w2 := h.trans (h2.mono h.size)
set_option maxRecDepth 100000 in
theorem check_ok (g c n : Nat) (xs : List VarD) (w : World) (h1 : Blk w g c xs) (hn : n = xs.length) (h12 : n ≤ 12) (hok : ∀ k x, xs[k]? = some x → OkAt xs k x) :
    Calls Tryz.prog 23 #[.slice (some ⟨g, 0, none⟩) n c] w fun e w' => e = .returned (.tuple #[.int .i64 (-1), .int .i64 0]) ∧ Below w.heap.size w w' := by
  have HB := Lib.hid h1
  have HN := Lib.hid hn
  have HO := Lib.hid hok
  have l1 := h1.lt
  have hcn : n ≤ c := by obtain ⟨_, _, h, _⟩ := h1; omega
  clear h1 hn hok
  go_enter Tryz.func23, Tryz.ntmps23
  go_wp2_with fail
  go_loopw [11] (fun vi wr => ∃ k : Nat, k ≤ n ∧ vi = .int .i64 k ∧ Below w.heap.size w wr) (fun vi _ => n - (intOf vi).toNat)
  case atStart => exact ⟨0, by omega, rfl, Below.refl _ _⟩
  case round =>
    obtain ⟨k, hk, rfl, hbr⟩ := hrel
    have HW := Lib.hid hbr
    have hsz := hbr.size
    clear hbr
    by_cases hlt : k < n
    · obtain ⟨x, hx⟩ : ∃ x, xs[k]? = some x := ⟨_, List.getElem?_eq_getElem (by have := HN.out; omega)⟩
      have HBr := Lib.hid (HB.out.bel HW.out)
      obtain ⟨a0, a1, a2, a3⟩ := HBr.out.at4 x hx
      have hg1 : g < wr.heap.size := by omega
      have HOx := Lib.hid (HO.out k x hx)
      have hkc : k ≤ c := by omega
      clear hx
      go_wp2_with (go_at_call 43; (with_reducible refine (good_calls HOx.out.name _).mono ?_); rintro e w1 ⟨rfl, hb1⟩)
      have HBa := Lib.hid (((Below.refl wr.heap.size wr).alloc (Nat.le_refl _) _).trans (hb1.mono (by simp)))
      have b0 : w1.cell? ⟨wr.heap.size, 0, none⟩ = some (.string x.name) := cell_bel hb1 (by exact World.cell?_alloc_new _ _ _ _)
      have b1 : w1.cell? ⟨wr.heap.size, 1, none⟩ = some (.bool x.num) := cell_bel hb1 (by exact World.cell?_alloc_new _ _ _ _)
      have b2 : w1.cell? ⟨wr.heap.size, 2, none⟩ = some (.string x.text) := cell_bel hb1 (by exact World.cell?_alloc_new _ _ _ _)
      have b3 : w1.cell? ⟨wr.heap.size, 3, none⟩ = some (.float .f64 x.flt) := cell_bel hb1 (by exact World.cell?_alloc_new _ _ _ _)
      have HBx := Lib.hid (HBr.out.bel HBa.out)
      have hs1 := HBa.out.size
      clear hb1
      refine (containsfunc g c k xs _ x.name w1 HBx.out b0 (by have := HN.out; omega) (by omega)).mono ?_
      rw [HOx.out.once]
      rintro e w2 ⟨rfl, hb2⟩
      have c1 := cell_bel hb2 b1
      have c2 := cell_bel hb2 b2
      have c3 := cell_bel hb2 b3
      have HBc := Lib.hid (HBa.out.trans (hb2.mono hs1))
      have hs2 := HBc.out.size
      clear hb2 b0 b1 b2 b3
      go_wp2_with (go_at_call 27; refine (right_calls _ _ _ _).mono ?_; rw [HOx.out.right]; rintro e w3 ⟨rfl, hb3⟩)
      go_roundw
      case rel => exact ⟨k + 1, by omega, by go_num, HW.out.trans ((HBc.out.trans (hb3.mono hs2)).mono hsz)⟩
      case measure => simp [intOf]; omega
    · go_wp2_with fail
      go_ret2
      exact ⟨rfl, HW.out⟩
set_option maxRecDepth 100000 in
theorem check_twice (g c n : Nat) (xs : List VarD) (w : World) (h1 : Blk w g c xs) (hn : n = xs.length) (h12 : n ≤ 12) (i : Nat) (hi : i < n) (hok : ∀ k x, k < i → xs[k]? = some x → OkAt xs k x) (x : VarD) (hxi : xs[i]? = some x) (hgn : GoodName x.name) (hdup : hasName (xs.take i) x.name = true) :
    Calls Tryz.prog 23 #[.slice (some ⟨g, 0, none⟩) n c] w fun e w' => e = .returned (.tuple #[.int .i64 (i : Int), .int .i64 281]) ∧ Below w.heap.size w w' := by
  have HB := Lib.hid h1
  have HN := Lib.hid hn
  have HO := Lib.hid hok
  have l1 := h1.lt
  have hcn : n ≤ c := by obtain ⟨_, _, h, _⟩ := h1; omega
  clear h1 hn hok
  go_enter Tryz.func23, Tryz.ntmps23
  go_wp2_with fail
  go_loopw [11] (fun vi wr => ∃ k : Nat, k ≤ i ∧ vi = .int .i64 k ∧ Below w.heap.size w wr) (fun vi _ => n - (intOf vi).toNat)
  case atStart => exact ⟨0, by omega, rfl, Below.refl _ _⟩
  case round =>
    obtain ⟨k, hk, rfl, hbr⟩ := hrel
    have HW := Lib.hid hbr
    have hsz := hbr.size
    clear hbr
    by_cases hlt : k < i
    · obtain ⟨x, hx⟩ : ∃ x, xs[k]? = some x := ⟨_, List.getElem?_eq_getElem (by have := HN.out; omega)⟩
      have HBr := Lib.hid (HB.out.bel HW.out)
      obtain ⟨a0, a1, a2, a3⟩ := HBr.out.at4 x hx
      have hg1 : g < wr.heap.size := by omega
      have HOx := Lib.hid (HO.out k x hlt hx)
      have hkc : k ≤ c := by omega
      clear hx
      go_wp2_with (go_at_call 43; (with_reducible refine (good_calls HOx.out.name _).mono ?_); rintro e w1 ⟨rfl, hb1⟩)
      have HBa := Lib.hid (((Below.refl wr.heap.size wr).alloc (Nat.le_refl _) _).trans (hb1.mono (by simp)))
      have b0 : w1.cell? ⟨wr.heap.size, 0, none⟩ = some (.string x.name) := cell_bel hb1 (by exact World.cell?_alloc_new _ _ _ _)
      have b1 : w1.cell? ⟨wr.heap.size, 1, none⟩ = some (.bool x.num) := cell_bel hb1 (by exact World.cell?_alloc_new _ _ _ _)
      have b2 : w1.cell? ⟨wr.heap.size, 2, none⟩ = some (.string x.text) := cell_bel hb1 (by exact World.cell?_alloc_new _ _ _ _)
      have b3 : w1.cell? ⟨wr.heap.size, 3, none⟩ = some (.float .f64 x.flt) := cell_bel hb1 (by exact World.cell?_alloc_new _ _ _ _)
      have HBx := Lib.hid (HBr.out.bel HBa.out)
      have hs1 := HBa.out.size
      clear hb1
      refine (containsfunc g c k xs _ x.name w1 HBx.out b0 (by have := HN.out; omega) (by omega)).mono ?_
      rw [HOx.out.once]
      rintro e w2 ⟨rfl, hb2⟩
      have c1 := cell_bel hb2 b1
      have c2 := cell_bel hb2 b2
      have c3 := cell_bel hb2 b3
      have HBc := Lib.hid (HBa.out.trans (hb2.mono hs1))
      have hs2 := HBc.out.size
      clear hb2 b0 b1 b2 b3
      go_wp2_with (go_at_call 27; refine (right_calls _ _ _ _).mono ?_; rw [HOx.out.right]; rintro e w3 ⟨rfl, hb3⟩)
      go_roundw
      case rel => exact ⟨k + 1, by omega, by go_num, HW.out.trans ((HBc.out.trans (hb3.mono hs2)).mono hsz)⟩
      case measure => simp [intOf]; omega
    · obtain rfl : k = i := by omega
      clear hlt
      have HBr := Lib.hid (HB.out.bel HW.out)
      obtain ⟨a0, a1, a2, a3⟩ := HBr.out.at4 x hxi
      have hg1 : g < wr.heap.size := by omega
      have HGN := Lib.hid hgn
      have HD := Lib.hid hdup
      have hkc : k ≤ c := by omega
      clear hxi hgn hdup
      go_wp2_with (go_at_call 43; (with_reducible refine (good_calls HGN.out _).mono ?_); rintro e w1 ⟨rfl, hb1⟩)
      have HBa := Lib.hid (((Below.refl wr.heap.size wr).alloc (Nat.le_refl _) _).trans (hb1.mono (by simp)))
      have b0 : w1.cell? ⟨wr.heap.size, 0, none⟩ = some (.string x.name) := cell_bel hb1 (by exact World.cell?_alloc_new _ _ _ _)
      have b1 : w1.cell? ⟨wr.heap.size, 1, none⟩ = some (.bool x.num) := cell_bel hb1 (by exact World.cell?_alloc_new _ _ _ _)
      have b2 : w1.cell? ⟨wr.heap.size, 2, none⟩ = some (.string x.text) := cell_bel hb1 (by exact World.cell?_alloc_new _ _ _ _)
      have b3 : w1.cell? ⟨wr.heap.size, 3, none⟩ = some (.float .f64 x.flt) := cell_bel hb1 (by exact World.cell?_alloc_new _ _ _ _)
      have HBx := Lib.hid (HBr.out.bel HBa.out)
      have hs1 := HBa.out.size
      clear hb1
      refine (containsfunc g c k xs _ x.name w1 HBx.out b0 (by have := HN.out; omega) (by omega)).mono ?_
      rw [HD.out]
      rintro e w2 ⟨rfl, hb2⟩
      have c1 := cell_bel hb2 b1
      have c2 := cell_bel hb2 b2
      have c3 := cell_bel hb2 b3
      have HBc := Lib.hid (HBa.out.trans (hb2.mono hs1))
      have hs2 := HBc.out.size
      clear hb2 b0 b1 b2 b3
      go_wp2_with fail
      go_ret2
      exact ⟨rfl, HW.out.trans (HBc.out.mono hsz)⟩
set_option maxRecDepth 100000 in
theorem check_value (g c n : Nat) (xs : List VarD) (w : World) (h1 : Blk w g c xs) (hn : n = xs.length) (h12 : n ≤ 12) (i : Nat) (hi : i < n) (hok : ∀ k x, k < i → xs[k]? = some x → OkAt xs k x) (x : VarD) (hxi : xs[i]? = some x) (hgn : GoodName x.name) (hdup : hasName (xs.take i) x.name = false) (hri : rightB x.num x.text x.flt = false) :
    Calls Tryz.prog 23 #[.slice (some ⟨g, 0, none⟩) n c] w fun e w' => e = .returned (.tuple #[.int .i64 (i : Int), .int .i64 283]) ∧ Below w.heap.size w w' := by
  have HB := Lib.hid h1
  have HN := Lib.hid hn
  have HO := Lib.hid hok
  have l1 := h1.lt
  have hcn : n ≤ c := by obtain ⟨_, _, h, _⟩ := h1; omega
  clear h1 hn hok
  go_enter Tryz.func23, Tryz.ntmps23
  go_wp2_with fail
  go_loopw [11] (fun vi wr => ∃ k : Nat, k ≤ i ∧ vi = .int .i64 k ∧ Below w.heap.size w wr) (fun vi _ => n - (intOf vi).toNat)
  case atStart => exact ⟨0, by omega, rfl, Below.refl _ _⟩
  case round =>
    obtain ⟨k, hk, rfl, hbr⟩ := hrel
    have HW := Lib.hid hbr
    have hsz := hbr.size
    clear hbr
    by_cases hlt : k < i
    · obtain ⟨x, hx⟩ : ∃ x, xs[k]? = some x := ⟨_, List.getElem?_eq_getElem (by have := HN.out; omega)⟩
      have HBr := Lib.hid (HB.out.bel HW.out)
      obtain ⟨a0, a1, a2, a3⟩ := HBr.out.at4 x hx
      have hg1 : g < wr.heap.size := by omega
      have HOx := Lib.hid (HO.out k x hlt hx)
      have hkc : k ≤ c := by omega
      clear hx
      go_wp2_with (go_at_call 43; (with_reducible refine (good_calls HOx.out.name _).mono ?_); rintro e w1 ⟨rfl, hb1⟩)
      have HBa := Lib.hid (((Below.refl wr.heap.size wr).alloc (Nat.le_refl _) _).trans (hb1.mono (by simp)))
      have b0 : w1.cell? ⟨wr.heap.size, 0, none⟩ = some (.string x.name) := cell_bel hb1 (by exact World.cell?_alloc_new _ _ _ _)
      have b1 : w1.cell? ⟨wr.heap.size, 1, none⟩ = some (.bool x.num) := cell_bel hb1 (by exact World.cell?_alloc_new _ _ _ _)
      have b2 : w1.cell? ⟨wr.heap.size, 2, none⟩ = some (.string x.text) := cell_bel hb1 (by exact World.cell?_alloc_new _ _ _ _)
      have b3 : w1.cell? ⟨wr.heap.size, 3, none⟩ = some (.float .f64 x.flt) := cell_bel hb1 (by exact World.cell?_alloc_new _ _ _ _)
      have HBx := Lib.hid (HBr.out.bel HBa.out)
      have hs1 := HBa.out.size
      clear hb1
      refine (containsfunc g c k xs _ x.name w1 HBx.out b0 (by have := HN.out; omega) (by omega)).mono ?_
      rw [HOx.out.once]
      rintro e w2 ⟨rfl, hb2⟩
      have c1 := cell_bel hb2 b1
      have c2 := cell_bel hb2 b2
      have c3 := cell_bel hb2 b3
      have HBc := Lib.hid (HBa.out.trans (hb2.mono hs1))
      have hs2 := HBc.out.size
      clear hb2 b0 b1 b2 b3
      go_wp2_with (go_at_call 27; refine (right_calls _ _ _ _).mono ?_; rw [HOx.out.right]; rintro e w3 ⟨rfl, hb3⟩)
      go_roundw
      case rel => exact ⟨k + 1, by omega, by go_num, HW.out.trans ((HBc.out.trans (hb3.mono hs2)).mono hsz)⟩
      case measure => simp [intOf]; omega
    · obtain rfl : k = i := by omega
      clear hlt
      have HBr := Lib.hid (HB.out.bel HW.out)
      obtain ⟨a0, a1, a2, a3⟩ := HBr.out.at4 x hxi
      have hg1 : g < wr.heap.size := by omega
      have HGN := Lib.hid hgn
      have HD := Lib.hid hdup
      have HRi := Lib.hid hri
      have hkc : k ≤ c := by omega
      clear hxi hgn hdup hri
      go_wp2_with (go_at_call 43; (with_reducible refine (good_calls HGN.out _).mono ?_); rintro e w1 ⟨rfl, hb1⟩)
      have HBa := Lib.hid (((Below.refl wr.heap.size wr).alloc (Nat.le_refl _) _).trans (hb1.mono (by simp)))
      have b0 : w1.cell? ⟨wr.heap.size, 0, none⟩ = some (.string x.name) := cell_bel hb1 (by exact World.cell?_alloc_new _ _ _ _)
      have b1 : w1.cell? ⟨wr.heap.size, 1, none⟩ = some (.bool x.num) := cell_bel hb1 (by exact World.cell?_alloc_new _ _ _ _)
      have b2 : w1.cell? ⟨wr.heap.size, 2, none⟩ = some (.string x.text) := cell_bel hb1 (by exact World.cell?_alloc_new _ _ _ _)
      have b3 : w1.cell? ⟨wr.heap.size, 3, none⟩ = some (.float .f64 x.flt) := cell_bel hb1 (by exact World.cell?_alloc_new _ _ _ _)
      have HBx := Lib.hid (HBr.out.bel HBa.out)
      have hs1 := HBa.out.size
      clear hb1
      refine (containsfunc g c k xs _ x.name w1 HBx.out b0 (by have := HN.out; omega) (by omega)).mono ?_
      rw [HD.out]
      rintro e w2 ⟨rfl, hb2⟩
      have c1 := cell_bel hb2 b1
      have c2 := cell_bel hb2 b2
      have c3 := cell_bel hb2 b3
      have HBc := Lib.hid (HBa.out.trans (hb2.mono hs1))
      have hs2 := HBc.out.size
      clear hb2 b0 b1 b2 b3
      go_wp2_with (go_at_call 27; refine (right_calls _ _ _ _).mono ?_; rw [HRi.out]; rintro e w3 ⟨rfl, hb3⟩)
      go_ret2
      exact ⟨rfl, HW.out.trans ((HBc.out.trans (hb3.mono hs2)).mono hsz)⟩
set_option maxRecDepth 100000 in
theorem check_min (g c n : Nat) (xs : List VarD) (w : World) (h1 : Blk w g c xs) (hn : n = xs.length) (h12 : n ≤ 12) (i : Nat) (hi : i < n) (hok : ∀ k x, k < i → xs[k]? = some x → OkAt xs k x) (x : VarD) (hxi : xs[i]? = some x) (hmin : x.name = ⟨#[109, 105, 110]⟩) :
    Calls Tryz.prog 23 #[.slice (some ⟨g, 0, none⟩) n c] w fun e w' => e = .returned (.tuple #[.int .i64 (i : Int), .int .i64 281]) ∧ Below w.heap.size w w' := by
  have HB := Lib.hid h1
  have HN := Lib.hid hn
  have HO := Lib.hid hok
  have l1 := h1.lt
  have hcn : n ≤ c := by obtain ⟨_, _, h, _⟩ := h1; omega
  clear h1 hn hok
  go_enter Tryz.func23, Tryz.ntmps23
  go_wp2_with fail
  go_loopw [11] (fun vi wr => ∃ k : Nat, k ≤ i ∧ vi = .int .i64 k ∧ Below w.heap.size w wr) (fun vi _ => n - (intOf vi).toNat)
  case atStart => exact ⟨0, by omega, rfl, Below.refl _ _⟩
  case round =>
    obtain ⟨k, hk, rfl, hbr⟩ := hrel
    have HW := Lib.hid hbr
    have hsz := hbr.size
    clear hbr
    by_cases hlt : k < i
    · obtain ⟨x, hx⟩ : ∃ x, xs[k]? = some x := ⟨_, List.getElem?_eq_getElem (by have := HN.out; omega)⟩
      have HBr := Lib.hid (HB.out.bel HW.out)
      obtain ⟨a0, a1, a2, a3⟩ := HBr.out.at4 x hx
      have hg1 : g < wr.heap.size := by omega
      have HOx := Lib.hid (HO.out k x hlt hx)
      have hkc : k ≤ c := by omega
      clear hx
      go_wp2_with (go_at_call 43; (with_reducible refine (good_calls HOx.out.name _).mono ?_); rintro e w1 ⟨rfl, hb1⟩)
      have HBa := Lib.hid (((Below.refl wr.heap.size wr).alloc (Nat.le_refl _) _).trans (hb1.mono (by simp)))
      have b0 : w1.cell? ⟨wr.heap.size, 0, none⟩ = some (.string x.name) := cell_bel hb1 (by exact World.cell?_alloc_new _ _ _ _)
      have b1 : w1.cell? ⟨wr.heap.size, 1, none⟩ = some (.bool x.num) := cell_bel hb1 (by exact World.cell?_alloc_new _ _ _ _)
      have b2 : w1.cell? ⟨wr.heap.size, 2, none⟩ = some (.string x.text) := cell_bel hb1 (by exact World.cell?_alloc_new _ _ _ _)
      have b3 : w1.cell? ⟨wr.heap.size, 3, none⟩ = some (.float .f64 x.flt) := cell_bel hb1 (by exact World.cell?_alloc_new _ _ _ _)
      have HBx := Lib.hid (HBr.out.bel HBa.out)
      have hs1 := HBa.out.size
      clear hb1
      refine (containsfunc g c k xs _ x.name w1 HBx.out b0 (by have := HN.out; omega) (by omega)).mono ?_
      rw [HOx.out.once]
      rintro e w2 ⟨rfl, hb2⟩
      have c1 := cell_bel hb2 b1
      have c2 := cell_bel hb2 b2
      have c3 := cell_bel hb2 b3
      have HBc := Lib.hid (HBa.out.trans (hb2.mono hs1))
      have hs2 := HBc.out.size
      clear hb2 b0 b1 b2 b3
      go_wp2_with (go_at_call 27; refine (right_calls _ _ _ _).mono ?_; rw [HOx.out.right]; rintro e w3 ⟨rfl, hb3⟩)
      go_roundw
      case rel => exact ⟨k + 1, by omega, by go_num, HW.out.trans ((HBc.out.trans (hb3.mono hs2)).mono hsz)⟩
      case measure => simp [intOf]; omega
    · obtain rfl : k = i := by omega
      clear hlt
      have HBr := Lib.hid (HB.out.bel HW.out)
      obtain ⟨a0, a1, a2, a3⟩ := HBr.out.at4 x hxi
      have hg1 : g < wr.heap.size := by omega
      rw [hmin] at a0
      clear hxi hmin
      go_wp2_with (go_at_call 43; (with_reducible refine (isname_min _).mono ?_); rintro e w1 ⟨rfl, hb1⟩)
      go_ret2
      exact ⟨rfl, HW.out.trans ((((Below.refl wr.heap.size wr).alloc (Nat.le_refl _) _).trans (hb1.mono (by simp))).mono hsz)⟩
theorem check_many (g c n : Nat) (w : World) (h12 : 12 < n) (hn : n ≤ 1000) :
    Calls Tryz.prog 23 #[.slice (some ⟨g, 0, none⟩) n c] w fun e w' => e = .returned (.tuple #[.int .i64 (-1), .int .i64 5]) ∧ Below w.heap.size w w' := by
  go_enter Tryz.func23, Tryz.ntmps23
  go_wp2_with fail
  go_ret2
  exact ⟨rfl, Below.refl _ _⟩
end Go.Proofs.YtaognphegancbaaGreatDoor
