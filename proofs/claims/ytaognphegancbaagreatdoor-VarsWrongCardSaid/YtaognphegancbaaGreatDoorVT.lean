/- vars: awake. -/
import Derived.Test.YtaognphegancbaaGreatDoorVS
namespace Go.Proofs.YtaognphegancbaaGreatDoor
set_option linter.unusedVariables false
set_option linter.unusedSimpArgs false
open Go.RowKit Go.Maps Go.WideMaps
def sN : ByteArray := ⟨#[110]⟩
def sT : ByteArray := ⟨#[116]⟩
def sA : ByteArray := ⟨#[97]⟩
def xs0 : List VarD := [⟨⟨#[110]⟩, true, ⟨#[]⟩, 9223372036854775808⟩, ⟨⟨#[116]⟩, false, ⟨#[97]⟩, 0⟩]
def xs1 : List VarD := [⟨⟨#[110]⟩, true, ⟨#[]⟩, 0⟩, ⟨⟨#[116]⟩, false, ⟨#[97]⟩, 0⟩]
theorem ok0 : ∀ k x, xs0[k]? = some x → OkAt xs0 k x := by
  intro k x hx
  match k, hx with
  | 0, hx => cases hx; exact ⟨good_n, rfl, by decide +kernel⟩
  | 1, hx => cases hx; exact ⟨good_t, by decide +kernel, by decide +kernel⟩
  | k + 2, hx => simp [xs0] at hx
theorem named0 : Named xs0 := ⟨by decide, by decide, by decide⟩
theorem named1 : Named xs1 := ⟨by decide, by decide, by decide⟩
theorem blk2 (w : World) (x y : VarD) : Blk (w.alloc (.cells #[.string x.name, .bool x.num, .string x.text, .float .f64 x.flt, .string y.name, .bool y.num, .string y.text, .float .f64 y.flt] 37)) w.heap.size 2 [x, y] :=
  ⟨_, heap_alloc_new w _, by simp, by unfold maxLen; omega, rfl, rfl⟩
theorem below_drewN {B q : Nat} {w w' : World} (h : Below B w w') : Below B w (w'.drewN q) := ⟨h.os, h.tape, h.output, h.size, h.block⟩
theorem blk1 (w : World) (x : VarD) : Blk (w.alloc (.cells #[.string x.name, .bool x.num, .string x.text, .float .f64 x.flt] 37)) w.heap.size 1 [x] :=
  ⟨_, heap_alloc_new w _, by simp, by unfold maxLen; omega, rfl, rfl⟩
theorem blk2_at (w : World) (x y : VarD) (b : Nat) (hb : b = w.heap.size) : Blk (w.alloc (.cells #[.string x.name, .bool x.num, .string x.text, .float .f64 x.flt, .string y.name, .bool y.num, .string y.text, .float .f64 y.flt] 37)) b 2 [x, y] := by
  subst hb
  exact blk2 w x y
theorem repeat513 (w : World) : Calls Tryz.prog 32 #[.string ⟨#[120]⟩, .int .i64 513] w fun e w' => ∃ X, e = .returned (.string X) ∧ rightB false X 0 = false ∧ Below w.heap.size w w' :=
  (Tryz.strings_Repeat ⟨#[120]⟩ 513 w (by decide) (by decide)).mono fun e w' h => ⟨_, h.1, by decide +kernel, h.2⟩
theorem one_cell {w : World} {g : Nat} {s : ByteArray} (h : w.cell? ⟨g, 0, none⟩ = some (.string s)) : ∀ j, j < [s].length → w.cell? ⟨g, 0 + j, none⟩ = some (.string ([s].getD j ByteArray.empty)) := by
  intro j hj
  obtain rfl : j = 0 := by simpa using hj
  exact h
theorem equal_one {w : World} {g1 c1 g2 c2 : Nat} {s : ByteArray} (h1 : w.cell? ⟨g1, 0, none⟩ = some (.string s)) (h2 : w.cell? ⟨g2, 0, none⟩ = some (.string s)) :
    Calls Tryz.prog 14 #[.slice (some ⟨g1, 0, none⟩) 1 c1, .slice (some ⟨g2, 0, none⟩) 1 c2] w fun e w' => e = .returned (.bool true) ∧ Below w.heap.size w w' :=
  (Tryz.slices_Equal_string g1 0 1 c1 g2 0 1 c2 [s] [s] w (by simp) (by simp) (by omega) (by omega) (one_cell h1) (one_cell h2)).mono fun e w' h => by
    obtain ⟨h, q, rfl⟩ := h
    exact ⟨by simpa using h, below_drewN (Below.refl _ _)⟩
theorem changed_all {w : World} {S BM L F cl cf : Nat} {cur fst : List VarD} (h : IsStore w S BM L F cl cf cur fst) (hl : fst.length = cur.length) (hf : cur.length ≤ 1000) :
    Calls Tryz.prog 15 #[.pointer (some ⟨S, 0, none⟩)] w fun e W' => ∃ v, e = .returned v ∧ W'.ownsRow w.heap.size 9 1 v (chg (cur.zip fst)).length ((chg (cur.zip fst)).map Value.string) ∧ (v = .slice none 0 0 ↔ chg (cur.zip fst) = []) ∧ Below w.heap.size w W' :=
  callsIn_wide.1 (changed_in S BM L F cl cf cur fst w h hl hf)
/-- Changed where one variable alone has turned. -/
theorem changed_one {w : World} {S BM L F cl cf : Nat} {cur fst : List VarD} (h : IsStore w S BM L F cl cf cur fst) (hl : fst.length = cur.length) (hf : cur.length ≤ 1000) (s : ByteArray) (hc : chg (cur.zip fst) = [s]) :
    Calls Tryz.prog 15 #[.pointer (some ⟨S, 0, none⟩)] w fun e W' => ∃ g c, e = .returned (.slice (some ⟨g, 0, none⟩) 1 c) ∧ W'.cell? ⟨g, 0, none⟩ = some (.string s) ∧ Below w.heap.size w W' :=
  (changed_all h hl hf).mono fun e W' ⟨v, he, hr, _, hb⟩ => by
    rw [hc] at hr
    obtain ⟨g, c, rfl, _⟩ := own_block hr (by simp)
    refine ⟨g, c, he, ?_, hb⟩
    have := hr.cells rfl 0 (.string s) rfl
    rwa [add0] at this
theorem cell_new1 (w : World) (v : Value) (t b : Nat) (hb : b = w.heap.size) : (w.alloc (.cells #[v] t)).cell? ⟨b, 0, none⟩ = some v := by
  subst hb
  exact World.cell?_alloc_new _ _ _ _
theorem okA : ∀ k x, k < 1 → ([⟨⟨#[97]⟩, false, ⟨#[]⟩, 0⟩, ⟨⟨#[97]⟩, false, ⟨#[]⟩, 0⟩] : List VarD)[k]? = some x → OkAt [⟨⟨#[97]⟩, false, ⟨#[]⟩, 0⟩, ⟨⟨#[97]⟩, false, ⟨#[]⟩, 0⟩] k x := by
  intro k x hk hx
  obtain rfl : k = 0 := by omega
  cases hx
  exact ⟨good_a, rfl, by decide +kernel⟩
set_option maxRecDepth 100000 in
theorem awake_calls (w : World) : Calls Tryz.prog 6 #[] w fun e w' => e = .returned (.bool true) ∧ Below w.heap.size w w' := by
  go_enter Tryz.func6, Tryz.ntmps6
  go_wp2_with (first
    | (go_at_call 28; (with_reducible refine (copysign_calls _).mono ?_); rintro e w1 ⟨rfl, rfl⟩)
    | (go_at_call 29; (with_reducible refine (number_calls _ _).mono ?_); rintro e w1 ⟨rfl, hb1⟩)
    | (go_at_call 30; (with_reducible refine (text_calls _ _).mono ?_); rintro e w2 ⟨rfl, hb2⟩))
  have W2 := Lib.hid (hb1.trans (hb2.mono hb1.size))
  have hs2 := W2.out.size
  clear hb1 hb2
  refine (new_ok w2.heap.size 2 2 xs0 _ (blk2 w2 _ _) rfl (by decide) (by decide) ok0 (by decide)).mono ?_
  rintro e w3 ⟨S, BM, L, F, cl, cf, rfl, hS, hBM, hL, hF, hst, hb3⟩
  have W3 := Lib.hid (W2.out.trans ((((Below.refl w2.heap.size w2).alloc (Nat.le_refl _) _).trans (hb3.mono (by simp))).mono hs2))
  have H3 := Lib.hid hst
  have lL : w.heap.size ≤ L := by have := W2.out.size; simp at hL; omega
  clear hst hb3 W2 hs2 hS hBM hL hF
  go_wp2_with fail
  refine (say_num H3.out named0 0 ⟨⟨#[110]⟩, true, ⟨#[]⟩, 9223372036854775808⟩ rfl rfl rfl ⟨#[45, 48]⟩ (by decide +kernel) write_nz).mono ?_
  rintro e w4 ⟨rfl, hb4⟩
  have W4 := Lib.hid (W3.out.trans (hb4.mono W3.out.size))
  have H4 := Lib.hid (H3.out.bel hb4)
  clear hb4
  go_wp2_with fail
  refine (number_calls _ _).mono ?_
  rintro e w5 ⟨rfl, hb5⟩
  have W5 := Lib.hid (W4.out.trans (hb5.mono W4.out.size))
  have H5 := Lib.hid (H4.out.bel hb5)
  clear hb5
  go_wp2_with fail
  refine (set_store H5.out named0 0 ⟨⟨#[110]⟩, true, ⟨#[]⟩, 9223372036854775808⟩ rfl ⟨#[]⟩ 0 (by decide +kernel)).mono ?_
  rintro e w6 ⟨rfl, hst6, hg6⟩
  have H6 := Lib.hid (show IsStore w6 S BM L F cl cf xs1 xs0 from hst6)
  have W6 := Lib.hid (W5.out.grown hg6 W5.out.size (fun j hj => by cases hj; exact lL))
  clear hst6 hg6
  go_wp2_with fail
  refine (text_calls _ _).mono ?_
  rintro e w7 ⟨rfl, hb7⟩
  have W7 := Lib.hid (W6.out.trans (hb7.mono W6.out.size))
  have H7 := Lib.hid (H6.out.bel hb7)
  clear hb7
  go_wp2_with fail
  refine (set_kind H7.out named1 0 ⟨⟨#[110]⟩, true, ⟨#[]⟩, 0⟩ rfl false (by decide) ⟨#[98]⟩ 0).mono ?_
  rintro e w8 ⟨rfl, hb8⟩
  have W8 := Lib.hid (W7.out.trans (hb8.mono W7.out.size))
  have H8 := Lib.hid (H7.out.bel hb8)
  clear hb8
  go_wp2_with fail
  refine (changed_one H8.out rfl (by decide) ⟨#[110]⟩ (by decide +kernel)).mono ?_
  rintro e w9 ⟨g9, c9, rfl, q9, hb9⟩
  have W9 := Lib.hid (W8.out.trans (hb9.mono W8.out.size))
  have H9 := Lib.hid (H8.out.bel hb9)
  clear hb9
  go_wp2_with fail
  refine (equal_one (cell_al q9 _) (by exact World.cell?_alloc_new _ _ _ _)).mono ?_
  rintro e w10 ⟨rfl, hb10⟩
  have B10 := ((Below.refl w9.heap.size w9).alloc (Nat.le_refl _) _).trans (hb10.mono (by simp))
  have W10 := Lib.hid (W9.out.trans (B10.mono W9.out.size))
  have H10 := Lib.hid (H9.out.bel B10)
  clear hb10 B10 q9
  go_wp2_with fail
  refine (repeat513 _).mono ?_
  rintro e w11 ⟨X, rfl, hX, hb11⟩
  have W11 := Lib.hid (W10.out.trans (hb11.mono W10.out.size))
  have H11 := Lib.hid (H10.out.bel hb11)
  have HX := Lib.hid hX
  clear hb11 hX
  go_wp2_with fail
  refine (text_calls _ _).mono ?_
  rintro e w12 ⟨rfl, hb12⟩
  have W12 := Lib.hid (W11.out.trans (hb12.mono W11.out.size))
  have H12 := Lib.hid (H11.out.bel hb12)
  clear hb12
  go_wp2_with fail
  refine (set_value H12.out named1 1 ⟨⟨#[116]⟩, false, ⟨#[97]⟩, 0⟩ rfl X 0 HX.out).mono ?_
  rintro e w13 ⟨rfl, hb13⟩
  have W13 := Lib.hid (W12.out.trans (hb13.mono W12.out.size))
  have H13 := Lib.hid (H12.out.bel hb13)
  clear hb13
  go_wp2_with fail
  refine (number_calls _ _).mono ?_
  rintro e w14 ⟨rfl, hb14⟩
  have W14 := Lib.hid (W13.out.trans (hb14.mono W13.out.size))
  have H14 := Lib.hid (H13.out.bel hb14)
  clear hb14
  go_wp2_with fail
  refine (set_name H14.out ⟨#[120]⟩ (by decide) (by simp [xs1]) true ⟨#[]⟩ 4607182418800017408).mono ?_
  rintro e w15 ⟨rfl, hb15⟩
  have W15 := Lib.hid (W14.out.trans (hb15.mono W14.out.size))
  have H15 := Lib.hid (H14.out.bel hb15)
  clear hb15
  go_wp2_with fail
  refine (env_calls H15.out rfl rfl).mono ?_
  rintro e w16 ⟨g1, c1, g2, c2, rfl, q1, q2, hb16⟩
  have W16 := Lib.hid (W15.out.trans (hb16.mono W15.out.size))
  have H16 := Lib.hid (H15.out.bel hb16)
  clear hb16
  have k1 := cell_al q1
  have k2 := cell_al q2
  go_wp2_with fail
  refine (equal_one (cell_al (k1 _) _) (cell_new1 _ _ _ _ (by simp))).mono ?_
  rintro e w17 ⟨rfl, hb17⟩
  have B17 := (((Below.refl w16.heap.size w16).alloc (Nat.le_refl _) _).alloc (by simp) _).trans (hb17.mono (by simp; omega))
  have W17 := Lib.hid (W16.out.trans (B17.mono W16.out.size))
  have H17 := Lib.hid (H16.out.bel B17)
  have m1 : w17.cell? ⟨w16.heap.size, 1, none⟩ = some (.slice (some ⟨g2, 0, none⟩) 1 c2) := cell_bel hb17 (cell_al (by exact World.cell?_alloc_new _ _ _ _) _)
  have m2 := cell_bel hb17 (cell_al (k2 _) _)
  clear hb17 B17 k1 k2 q1 q2
  go_wp2_with (go_at_call 34; (with_reducible refine (samefloat_calls 0 0 (by decide +kernel) (by decide +kernel) _).mono ?_); rintro e w18 ⟨rfl, rfl⟩)
  refine (reset_store H17.out rfl rfl (by decide)).mono ?_
  rintro e w18 ⟨rfl, hst18, hg18⟩
  have W18 := Lib.hid (W17.out.grown hg18 W17.out.size (fun j hj => by cases hj; exact lL))
  have H18 := Lib.hid hst18
  clear hst18 hg18
  go_wp2_with fail
  refine (get_store H18.out named0 0 ⟨⟨#[110]⟩, true, ⟨#[]⟩, 9223372036854775808⟩ rfl).mono ?_
  rintro e w19 ⟨rfl, hb19⟩
  have W19 := Lib.hid (W18.out.trans (hb19.mono W18.out.size))
  clear hb19
  go_wp2_with fail
  refine (check_twice (w19.heap.size + 1) 2 2 [⟨⟨#[97]⟩, false, ⟨#[]⟩, 0⟩, ⟨⟨#[97]⟩, false, ⟨#[]⟩, 0⟩] _ (blk2_at _ _ _ _ (by simp)) rfl (by decide) 1 (by decide) okA ⟨⟨#[97]⟩, false, ⟨#[]⟩, 0⟩ rfl good_a (by decide +kernel)).mono ?_
  rintro e w20 ⟨rfl, hb20⟩
  have B20 := (((Below.refl w19.heap.size w19).alloc (Nat.le_refl _) _).alloc (by simp) _).trans (hb20.mono (by simp; omega))
  have W20 := Lib.hid (W19.out.trans (B20.mono W19.out.size))
  have m3 : w20.cell? ⟨w19.heap.size, 2, none⟩ = some (.float .f64 9223372036854775808) := cell_bel hb20 (cell_al (by exact World.cell?_alloc_new _ _ _ _) _)
  clear hb20 B20
  go_wp2_with fail
  refine (check_min w20.heap.size 1 1 [⟨⟨#[109, 105, 110]⟩, false, ⟨#[]⟩, 0⟩] _ (blk1 w20 _) rfl (by decide) 0 (by decide) (fun k x hk _ => by omega) ⟨⟨#[109, 105, 110]⟩, false, ⟨#[]⟩, 0⟩ rfl rfl).mono ?_
  rintro e w21 ⟨rfl, hb21⟩
  have B21 := ((Below.refl w20.heap.size w20).alloc (Nat.le_refl _) _).trans (hb21.mono (by simp))
  have W21 := Lib.hid (W20.out.trans (B21.mono W20.out.size))
  have m4 := cell_bel hb21 (cell_al m3 _)
  clear hb21 B21 m3
  go_wp2_with (go_at_call 34; (with_reducible refine (samefloat_calls 9223372036854775808 9223372036854775808 (by decide +kernel) (by decide +kernel) _).mono ?_); rintro e w18 ⟨rfl, rfl⟩)
  go_ret
  exact ⟨rfl, W21.out⟩
end Go.Proofs.YtaognphegancbaaGreatDoor
