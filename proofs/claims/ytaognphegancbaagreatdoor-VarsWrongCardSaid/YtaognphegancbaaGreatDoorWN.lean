/- vars: VarsWrong: the walk. -/
import Derived.Test.YtaognphegancbaaGreatDoorWO
namespace Go.Proofs.YtaognphegancbaaGreatDoor
set_option linter.unusedVariables false
set_option linter.unusedSimpArgs false
open Go.RowKit Go.Maps Go.WideMaps
set_option maxRecDepth 100000 in
set_option maxHeartbeats 4000000 in
theorem varsWrong_calls (kx : Int) (A : Option Addr) (n c : Nat) (A2 : Option Addr) (n2 c2 : Nat) (k0 : Nat) (nm : ByteArray) (bits : Nat) (w : World) (hA : SmallB w A n) (hn : n ≤ maxLen) (hk0 : k0 < 256) (hnm : nm.size ≤ maxLen) (hbits : bits < 18446744073709551616) :
    Calls Tryz.prog 5 #[.agg #[.int .u8 kx, .slice A n c, .slice A2 n2 c2], .int .u8 k0, .string nm, .int .u64 bits] w fun e w' => e = .returned (.bool true) ∧ Below w.heap.size w w' := by
  have HA := Lib.hid hA
  have HNM := Lib.hid hnm
  have HB64 := Lib.hid hbits
  clear hA hnm hbits
  go_enter Tryz.func5, Tryz.ntmps5
  go_wp2_with fail
  refine (awake_calls _).mono ?_
  rintro e w1 ⟨rfl, hb1⟩
  have W1 := Lib.hid (((Below.refl w.heap.size w).alloc (Nat.le_refl _) (.cells #[.int .u8 kx, .slice A n c, .slice A2 n2 c2] 25)).trans (hb1.mono (by simp)))
  have x0 : w1.cell? ⟨w.heap.size, 0, none⟩ = some (.int .u8 kx) := cell_bel hb1 (by exact World.cell?_alloc_new _ _ _ _)
  have x1 : w1.cell? ⟨w.heap.size, 1, none⟩ = some (.slice A n c) := cell_bel hb1 (by exact World.cell?_alloc_new _ _ _ _)
  have x2 : w1.cell? ⟨w.heap.size, 2, none⟩ = some (.slice A2 n2 c2) := cell_bel hb1 (by exact World.cell?_alloc_new _ _ _ _)
  have hs1 := W1.out.size
  clear hb1
  go_wp2_with fail
  refine (made_calls kx A n c A2 n2 c2 w1 (HA.out.bel W1.out) hn).mono ?_
  rintro e w2 ⟨S, BM, L, F, cl, cf, g, cp, xs, rfl, hm⟩
  have HM := Lib.hid hm
  have W2 := Lib.hid (W1.out.trans (hm.bel.mono hs1))
  have hs2 := W2.out.size
  have hl6 := hm.made.len
  have hrem : (k0 : Int).tmod 6 = ((k0 % 6 : Nat) : Int) := by rw [Int.tmod_eq_emod_of_nonneg (by omega)]; omega
  have hi6 : k0 % 6 < 6 := by omega
  obtain ⟨x, hx⟩ : ∃ x, xs[k0 % 6]? = some x := ⟨_, List.getElem?_eq_getElem (by omega)⟩
  generalize k0 % 6 = i at hx hi6 hrem
  have HX := Lib.hid hx
  obtain ⟨a0, a1, a2, a3⟩ := hm.blk.at4 x hx
  have hg2 := hm.blk.lt
  clear hm hx
  have hmk := fun w => make513 w
  have hcv := conv513 (((w2.alloc (.cells #[.string x.name, .bool x.num, .string x.text, .float .f64 x.flt] 37)).alloc (.cells #[.bool (!x.num), .string ⟨#[]⟩, .float .f64 0] 35)).alloc (.cells zeroRow 5)) (w2.heap.size + 1 + 1) (alloc_third w2 _ _ _)
  cases hnum : x.num
  · rw [hnum] at a1 hcv
    simp only [Bool.not_false] at hcv
    have hbx := boxes_new w2 x zeros 0 (.cells zeroRow 5)
    have hbb := four_bel w2 (.cells #[.string x.name, .bool x.num, .string x.text, .float .f64 x.flt] 37) (.cells #[.bool (!x.num), .string ⟨#[]⟩, .float .f64 0] 35) (.cells zeroRow 5) (.cells #[.bool x.num, .string zeros, .float .f64 0] 35)
    rw [hnum] at hbx hbb
    simp only [Bool.not_false] at hbx hbb
    have HRB : Hid (rightB false zeros 0 = false) := Lib.hid right_zeros
    go_wp2_with fail
    generalize ((((w2.alloc (.cells #[.string x.name, .bool false, .string x.text, .float .f64 x.flt] 37)).alloc (.cells #[.bool true, .string ⟨#[]⟩, .float .f64 0] 35)).alloc (.cells zeroRow 5)).alloc (.cells #[.bool false, .string zeros, .float .f64 0] 35)) = w3 at hbx hbb ⊢
    have HBx := Lib.hid hbx
    have HS3 := Lib.hid (HM.out.st.bel hbb)
    have HG3 := Lib.hid (HM.out.blk.bel hbb)
    have W3 := Lib.hid (W2.out.trans (hbb.mono hs2))
    have hs3 := W3.out.size
    generalize w2.heap.size + 1 + 1 + 1 = BX at HBx ⊢
    generalize w2.heap.size + 1 = OX at HBx ⊢
    generalize w2.heap.size = VX at HBx ⊢
    clear hbx hbb hmk hcv a0 a1 a2 a3 x0 x1 x2
    refine (copy_calls (n := 6) (m := 6) HS3.out hl6.symm hl6.symm (by omega) (by omega) (by omega) (by omega)).mono ?_
    rintro e w4 ⟨T, BN, K, G, ck, cg, rfl, ⟨t1, t2, t3, t4⟩, hst4, hb4⟩
    have HS4 := Lib.hid (HS3.out.bel hb4)
    have HT4 := Lib.hid hst4
    have HG4 := Lib.hid (HG3.out.bel hb4)
    have HB4 := Lib.hid (HBx.out.bel hb4)
    have W4 := Lib.hid (W3.out.trans (hb4.mono hs3))
    have hs4 := W4.out.size
    clear hst4 hb4 t1 t2 t3 t4 HS3 HG3 HBx W3
    by_cases hin : nm ∈ xs.map (·.name)
    · have HIN : ∃ (k : Nat) (z : VarD), xs[k]? = some z ∧ z.name = nm := by
        obtain ⟨z, hz, e⟩ := List.mem_map.1 hin
        obtain ⟨k, hk⟩ := List.mem_iff_getElem?.1 hz
        exact ⟨k, z, hk, e⟩
      obtain ⟨kz, z, hkz, rfl⟩ := HIN
      clear hin
      have HZ := Lib.hid hkz
      clear hkz
      go_wp2_with fail
      refine (get_store HS4.out HM.out.made.named kz z HZ.out).mono ?_
      rintro e w5 ⟨rfl, hb5⟩
      have ba : Below w4.heap.size w4 (w5.alloc (.cells #[.bool z.num, .string z.text, .float .f64 z.flt] 35)) := hb5.alloc hb5.size _
      have HS5 := Lib.hid (HS4.out.bel ba)
      have HT5 := Lib.hid (HT4.out.bel ba)
      have HG5 := Lib.hid (HG4.out.bel ba)
      have HB5 := Lib.hid (HB4.out.bel ba)
      have W5 := Lib.hid (W4.out.trans (ba.mono hs4))
      have hs5 := W5.out.size
      have v0 := HB5.out.v0
      have o0 := HB5.out.o0
      have o1 := HB5.out.o1
      have o2 := HB5.out.o2
      rw [hnum] at o0
      clear hb5 ba HS4 HT4 HG4 HB4 W4
      go_wp2_with fail
      have hkd := set_kind HS5.out HM.out.made.named i x HX.out true (by rw [hnum]; decide) ⟨#[]⟩ 0
      refine hkd.mono ?_
      rintro e w6 ⟨rfl, hb6⟩
      have HS6 := Lib.hid (HS5.out.bel hb6)
      have HT6 := Lib.hid (HT5.out.bel hb6)
      have HG6 := Lib.hid (HG5.out.bel hb6)
      have HB6 := Lib.hid (HB5.out.bel hb6)
      have W6 := Lib.hid (W5.out.trans (hb6.mono hs5))
      have hs6 := W6.out.size
      have v0 := HB6.out.v0
      have b0 := HB6.out.b0
      have b1 := HB6.out.b1
      have b2 := HB6.out.b2
      rw [hnum] at b0
      clear hkd hb6 HS5 HT5 HG5 HB5 W5 o0 o1 o2
      go_wp2_with fail
      have hkv := set_value HS6.out HM.out.made.named i x HX.out zeros 0 (by rw [hnum]; exact HRB.out)
      rw [hnum] at hkv
      refine hkv.mono ?_
      rintro e w7 ⟨rfl, hb7⟩
      have HS7 := Lib.hid (HS6.out.bel hb7)
      have HT7 := Lib.hid (HT6.out.bel hb7)
      have HG7 := Lib.hid (HG6.out.bel hb7)
      have HB7 := Lib.hid (HB6.out.bel hb7)
      have W7 := Lib.hid (W6.out.trans (hb7.mono hs6))
      have hs7 := W7.out.size
      have v1 := HB7.out.v1
      have v2 := HB7.out.v2
      have v3 := HB7.out.v3
      rw [hnum] at v1
      clear hkv hb7 HS6 HT6 HG6 HB6 W6 v0 b0 b1 b2
      go_wp2_with fail
      refine (vsame_calls HS7.out HT7.out (by omega) (by omega)).mono ?_
      rw [eqAll_self]
      rintro e w9 ⟨rfl, hb9⟩
      have HG9 := Lib.hid (HG7.out.bel hb9)
      have HB9 := Lib.hid (HB7.out.bel hb9)
      have W9 := Lib.hid (W7.out.trans (hb9.mono hs7))
      have hs9 := W9.out.size
      clear hb9 HS7 HT7 HG7 HB7 W7 v1 v2 v3
      go_wp2_with fail
      refine wp_normal (rW16 g cp VX x xs w9 _ _ _ _ _ _ _ _ _ _ _ _ _ _ _ _ _ _ _ _ _ _ _ _ _ _ _ _ _ _ _ _ _ _ _ _ _ _ _ _ _ _ _ _ _ _ _ _ _ _ _ _ _ _ _ _ _ _ _ _ _ _ _ _ _ _ _ _ _ _ _ _ _ _ _ _ _ _ _ _ _ _ _ _ _ _ _ _ _ _ _ _ _ _ _ _ _ _ _ _ _ _ _ _ _ _ _ _ _ _ _ _ _ _ _ _ _ _ _ _ _ _ _ _ _ _ _ _ _ _ _ _ _ _ _ _ _ _ _ _ _ _ _ _ _ _ _ _ _ _ _ _ _ _ _ _ _ _ _ _ _ _ _ _ _ _ _ _ _ _ _ _ _ _ _ _ _ _ _ _ _ _ _ _ _ _ hl6 HG9 HB9.out.v0 HB9.out.v1 HB9.out.v2 HB9.out.v3 ?_)
      intro _ _ _ _ _ w10 g10 c10 hb10 hbel10
      have HT10 := Lib.hid hb10
      have HG10 := Lib.hid (HG9.out.bel hbel10)
      have HB10 := Lib.hid (HB9.out.bel hbel10)
      have W10 := Lib.hid (W9.out.trans (hbel10.mono hs9))
      have hs10 := W10.out.size
      clear hb10 hbel10 HG9 HB9 W9
      have hl7 : 7 = (xs ++ [x]).length := by rw [List.length_append, hl6]; rfl
      go_wp2_with fail
      refine (check_twice g10 c10 7 (xs ++ [x]) w10 HT10.out hl7 (by omega) 6 (by omega) (twice_ok x HM.out.made) x (twice_at x HM.out.made) (HM.out.made.ok i x HX.out).name (twice_dup HM.out.made HX.out)).mono ?_
      rintro e w11 ⟨rfl, hb11⟩
      have HT11 := Lib.hid (HT10.out.bel hb11)
      have HG11 := Lib.hid (HG10.out.bel hb11)
      have HB11 := Lib.hid (HB10.out.bel hb11)
      have W11 := Lib.hid (W10.out.trans (hb11.mono hs10))
      have hs11 := W11.out.size
      clear hb11 HT10 HG10 HB10 W10
      go_wp2_with fail
      refine (new_twice g10 c10 7 (xs ++ [x]) w11 HT11.out hl7 (by omega) 6 (by omega) (twice_ok x HM.out.made) x (twice_at x HM.out.made) (HM.out.made.ok i x HX.out).name (twice_dup HM.out.made HX.out)).mono ?_
      rintro e w12 ⟨rfl, hb12⟩
      have HG12 := Lib.hid (HG11.out.bel hb12)
      have HB12 := Lib.hid (HB11.out.bel hb12)
      have W12 := Lib.hid (W11.out.trans (hb12.mono hs11))
      have hs12 := W12.out.size
      have v0 := HB12.out.v0
      have v1 := HB12.out.v1
      have v2 := HB12.out.v2
      have v3 := HB12.out.v3
      rw [hnum] at v1
      clear hb12 hl7 HT11 HG11 HB11 W11
      go_wp2_with fail
      have hbk := blk1 w12 x
      rw [hnum] at hbk
      have bc := (Below.refl w12.heap.size w12).alloc (Nat.le_refl _) (.cells #[.string x.name, .bool false, .string x.text, .float .f64 x.flt] 37)
      refine (repeat13 w12.heap.size 1 x _ hbk).mono ?_
      rintro e w13 ⟨g13, c13, rfl, hb13⟩
      have bd := bc.trans (hb13.mono bc.size)
      have HG13 := Lib.hid (HG12.out.bel bd)
      have HB13 := Lib.hid (HB12.out.bel bd)
      have W13 := Lib.hid (W12.out.trans (bd.mono hs12))
      have hs13 := W13.out.size
      clear hb13 bc bd hbk HG12 HB12 W12 v0 v1 v2 v3
      go_wp2_with fail
      refine (check_many g13 c13 13 w13 (by omega) (by omega)).mono ?_
      rintro e w14 ⟨rfl, hb14⟩
      have HG14 := Lib.hid (HG13.out.bel hb14)
      have HB14 := Lib.hid (HB13.out.bel hb14)
      have W14 := Lib.hid (W13.out.trans (hb14.mono hs13))
      have hs14 := W14.out.size
      clear hb14 HG13 HB13 W13
      go_wp2_with fail
      refine (clone_calls g cp 6 xs w14 HG14.out (by omega) hl6.symm (by omega)).mono ?_
      rintro e w15 ⟨g15, c15, rfl, hg15, hbk15, hb15⟩
      have HK15 := Lib.hid hbk15
      have HB15 := Lib.hid (HB14.out.bel hb15)
      have W15 := Lib.hid (W14.out.trans (hb15.mono hs14))
      have hs15 := W15.out.size
      have hVX : VX < w14.heap.size := World.block_lt_of_cell? w14 _ HB14.out.v0
      have hBX : BX < w14.heap.size := World.block_lt_of_cell? w14 _ HB14.out.b0
      obtain ⟨y0, y1, y2, y3⟩ := HK15.out.at4 x HX.out
      have z1 := HK15.out.frozen (i * 4 + 1)
      have z2 := HK15.out.frozen (i * 4 + 2)
      have z3 := HK15.out.frozen (i * 4 + 3)
      have b0 := HB15.out.b0
      have b1 := HB15.out.b1
      have b2 := HB15.out.b2
      rw [hnum] at b0 y1
      have hi0 : (0 : Int) ≤ (i : Int) := by omega
      have hi1 : (i : Int) < 6 := by omega
      clear hbk15 hb15 HG14 HB14 W14
      go_wp2_with fail
      clear z1 z2 z3 y0 y1 y2 y3
      show Calls Tryz.prog 23 _ (setV w15 g15 i false zeros 0) _
      obtain ⟨X1, X2⟩ := setV_own HK15.out x ⟨x.name, false, zeros, 0⟩ HX.out rfl
      simp only at X1 X2
      have hs15b := HB15.out
      have b0' := (World.cell?_of_block (X2.block BX (World.block_lt_of_cell? w15 _ b0) (by simp; omega))).trans b0
      have b1' := (World.cell?_of_block (X2.block BX (World.block_lt_of_cell? w15 _ b0) (by simp; omega))).trans b1
      have b2' := (World.cell?_of_block (X2.block BX (World.block_lt_of_cell? w15 _ b0) (by simp; omega))).trans b2
      have W16 := Lib.hid (W15.out.grown X2 hs15 (fun j hj => by cases hj; omega))
      have hs16 := W16.out.size
      have HX1 := Lib.hid X1
      clear X1 X2 b0 b1 b2 HK15 HB15 W15 hs15b
      generalize setV w15 g15 i false zeros 0 = w16 at b0' b1' b2' W16 hs16 HX1 ⊢
      refine (check_value g15 c15 6 _ w16 HX1.out (by rw [List.length_set, hl6]) (by omega) i hi6 (odd_ok HM.out.made i _) ⟨x.name, false, zeros, 0⟩ (by rw [List.getElem?_set_self (by omega)]) (HM.out.made.ok i x HX.out).name (odd_dup HM.out.made HX.out _) HRB.out).mono ?_
      rintro e w17 ⟨rfl, hb17⟩
      have c0 := cell_bel hb17 b0'
      have c1 := cell_bel hb17 b1'
      have c2 := cell_bel hb17 b2'
      have W17 := Lib.hid (W16.out.trans (hb17.mono hs16))
      have hs17 := W17.out.size
      clear hb17 b0' b1' b2' W16 HX1
      go_wp2_with fail
      refine (text_bad false zeros 0 w17 HRB.out).mono ?_
      rintro e w18 ⟨rfl, hb18⟩
      have d0 := cell_bel hb18 c0
      have d1 := cell_bel hb18 c1
      have d2 := cell_bel hb18 c2
      have W18 := Lib.hid (W17.out.trans (hb18.mono hs17))
      have hs18 := W18.out.size
      clear hb18 c0 c1 c2 W17
      go_wp2_with fail
      have hr := right_calls false zeros 0 w18
      rw [HRB.out] at hr
      refine hr.mono ?_
      rintro e w19 ⟨rfl, hb19⟩
      have W19 := Lib.hid (W18.out.trans (hb19.mono hs18))
      clear hr hb19 W18
      go_wp2_with fail
      go_ret
      exact ⟨rfl, W19.out⟩
    · have HIN := Lib.hid hin
      clear hin
      go_wp2_with fail
      refine (get_miss S BM _ nm w4 HS4.out.c1 HS4.out.map HNM.out HIN.out).mono ?_
      rintro e w5 ⟨rfl, hb5⟩
      have ba : Below w4.heap.size w4 (w5.alloc (.cells #[.bool false, .string ⟨#[]⟩, .float .f64 0] 35)) := hb5.alloc hb5.size _
      have HS5 := Lib.hid (HS4.out.bel ba)
      have HT5 := Lib.hid (HT4.out.bel ba)
      have HG5 := Lib.hid (HG4.out.bel ba)
      have HB5 := Lib.hid (HB4.out.bel ba)
      have W5 := Lib.hid (W4.out.trans (ba.mono hs4))
      have hs5 := W5.out.size
      have v0 := HB5.out.v0
      have o0 := HB5.out.o0
      have o1 := HB5.out.o1
      have o2 := HB5.out.o2
      rw [hnum] at o0
      clear hb5 ba HS4 HT4 HG4 HB4 W4
      go_wp2_with fail
      have hkd := set_kind HS5.out HM.out.made.named i x HX.out true (by rw [hnum]; decide) ⟨#[]⟩ 0
      refine hkd.mono ?_
      rintro e w6 ⟨rfl, hb6⟩
      have HS6 := Lib.hid (HS5.out.bel hb6)
      have HT6 := Lib.hid (HT5.out.bel hb6)
      have HG6 := Lib.hid (HG5.out.bel hb6)
      have HB6 := Lib.hid (HB5.out.bel hb6)
      have W6 := Lib.hid (W5.out.trans (hb6.mono hs5))
      have hs6 := W6.out.size
      have v0 := HB6.out.v0
      have b0 := HB6.out.b0
      have b1 := HB6.out.b1
      have b2 := HB6.out.b2
      rw [hnum] at b0
      clear hkd hb6 HS5 HT5 HG5 HB5 W5 o0 o1 o2
      go_wp2_with fail
      have hkv := set_value HS6.out HM.out.made.named i x HX.out zeros 0 (by rw [hnum]; exact HRB.out)
      rw [hnum] at hkv
      refine hkv.mono ?_
      rintro e w7 ⟨rfl, hb7⟩
      have HS7 := Lib.hid (HS6.out.bel hb7)
      have HT7 := Lib.hid (HT6.out.bel hb7)
      have HG7 := Lib.hid (HG6.out.bel hb7)
      have HB7 := Lib.hid (HB6.out.bel hb7)
      have W7 := Lib.hid (W6.out.trans (hb7.mono hs6))
      have hs7 := W7.out.size
      have v1 := HB7.out.v1
      have v2 := HB7.out.v2
      have v3 := HB7.out.v3
      rw [hnum] at v1
      clear hkv hb7 HS6 HT6 HG6 HB6 W6 v0 b0 b1 b2
      go_wp2_with fail
      refine (set_name HS7.out nm HNM.out HIN.out false x.text x.flt).mono ?_
      rintro e w8 ⟨rfl, hb8⟩
      have HS8 := Lib.hid (HS7.out.bel hb8)
      have HT8 := Lib.hid (HT7.out.bel hb8)
      have HG8 := Lib.hid (HG7.out.bel hb8)
      have HB8 := Lib.hid (HB7.out.bel hb8)
      have W8 := Lib.hid (W7.out.trans (hb8.mono hs7))
      have hs8 := W8.out.size
      clear hb8 HS7 HT7 HG7 HB7 W7
      go_wp2_with fail
      refine (vsame_calls HS8.out HT8.out (by omega) (by omega)).mono ?_
      rw [eqAll_self]
      rintro e w9 ⟨rfl, hb9⟩
      have HG9 := Lib.hid (HG8.out.bel hb9)
      have HB9 := Lib.hid (HB8.out.bel hb9)
      have W9 := Lib.hid (W8.out.trans (hb9.mono hs8))
      have hs9 := W9.out.size
      clear hb9 HS8 HT8 HG8 HB8 W8 v1 v2 v3
      go_wp2_with fail
      refine wp_normal (rW16 g cp VX x xs w9 _ _ _ _ _ _ _ _ _ _ _ _ _ _ _ _ _ _ _ _ _ _ _ _ _ _ _ _ _ _ _ _ _ _ _ _ _ _ _ _ _ _ _ _ _ _ _ _ _ _ _ _ _ _ _ _ _ _ _ _ _ _ _ _ _ _ _ _ _ _ _ _ _ _ _ _ _ _ _ _ _ _ _ _ _ _ _ _ _ _ _ _ _ _ _ _ _ _ _ _ _ _ _ _ _ _ _ _ _ _ _ _ _ _ _ _ _ _ _ _ _ _ _ _ _ _ _ _ _ _ _ _ _ _ _ _ _ _ _ _ _ _ _ _ _ _ _ _ _ _ _ _ _ _ _ _ _ _ _ _ _ _ _ _ _ _ _ _ _ _ _ _ _ _ _ _ _ _ _ _ _ _ _ _ _ _ hl6 HG9 HB9.out.v0 HB9.out.v1 HB9.out.v2 HB9.out.v3 ?_)
      intro _ _ _ _ _ w10 g10 c10 hb10 hbel10
      have HT10 := Lib.hid hb10
      have HG10 := Lib.hid (HG9.out.bel hbel10)
      have HB10 := Lib.hid (HB9.out.bel hbel10)
      have W10 := Lib.hid (W9.out.trans (hbel10.mono hs9))
      have hs10 := W10.out.size
      clear hb10 hbel10 HG9 HB9 W9
      have hl7 : 7 = (xs ++ [x]).length := by rw [List.length_append, hl6]; rfl
      go_wp2_with fail
      refine (check_twice g10 c10 7 (xs ++ [x]) w10 HT10.out hl7 (by omega) 6 (by omega) (twice_ok x HM.out.made) x (twice_at x HM.out.made) (HM.out.made.ok i x HX.out).name (twice_dup HM.out.made HX.out)).mono ?_
      rintro e w11 ⟨rfl, hb11⟩
      have HT11 := Lib.hid (HT10.out.bel hb11)
      have HG11 := Lib.hid (HG10.out.bel hb11)
      have HB11 := Lib.hid (HB10.out.bel hb11)
      have W11 := Lib.hid (W10.out.trans (hb11.mono hs10))
      have hs11 := W11.out.size
      clear hb11 HT10 HG10 HB10 W10
      go_wp2_with fail
      refine (new_twice g10 c10 7 (xs ++ [x]) w11 HT11.out hl7 (by omega) 6 (by omega) (twice_ok x HM.out.made) x (twice_at x HM.out.made) (HM.out.made.ok i x HX.out).name (twice_dup HM.out.made HX.out)).mono ?_
      rintro e w12 ⟨rfl, hb12⟩
      have HG12 := Lib.hid (HG11.out.bel hb12)
      have HB12 := Lib.hid (HB11.out.bel hb12)
      have W12 := Lib.hid (W11.out.trans (hb12.mono hs11))
      have hs12 := W12.out.size
      have v0 := HB12.out.v0
      have v1 := HB12.out.v1
      have v2 := HB12.out.v2
      have v3 := HB12.out.v3
      rw [hnum] at v1
      clear hb12 hl7 HT11 HG11 HB11 W11
      go_wp2_with fail
      have hbk := blk1 w12 x
      rw [hnum] at hbk
      have bc := (Below.refl w12.heap.size w12).alloc (Nat.le_refl _) (.cells #[.string x.name, .bool false, .string x.text, .float .f64 x.flt] 37)
      refine (repeat13 w12.heap.size 1 x _ hbk).mono ?_
      rintro e w13 ⟨g13, c13, rfl, hb13⟩
      have bd := bc.trans (hb13.mono bc.size)
      have HG13 := Lib.hid (HG12.out.bel bd)
      have HB13 := Lib.hid (HB12.out.bel bd)
      have W13 := Lib.hid (W12.out.trans (bd.mono hs12))
      have hs13 := W13.out.size
      clear hb13 bc bd hbk HG12 HB12 W12 v0 v1 v2 v3
      go_wp2_with fail
      refine (check_many g13 c13 13 w13 (by omega) (by omega)).mono ?_
      rintro e w14 ⟨rfl, hb14⟩
      have HG14 := Lib.hid (HG13.out.bel hb14)
      have HB14 := Lib.hid (HB13.out.bel hb14)
      have W14 := Lib.hid (W13.out.trans (hb14.mono hs13))
      have hs14 := W14.out.size
      clear hb14 HG13 HB13 W13
      go_wp2_with fail
      refine (clone_calls g cp 6 xs w14 HG14.out (by omega) hl6.symm (by omega)).mono ?_
      rintro e w15 ⟨g15, c15, rfl, hg15, hbk15, hb15⟩
      have HK15 := Lib.hid hbk15
      have HB15 := Lib.hid (HB14.out.bel hb15)
      have W15 := Lib.hid (W14.out.trans (hb15.mono hs14))
      have hs15 := W15.out.size
      have hVX : VX < w14.heap.size := World.block_lt_of_cell? w14 _ HB14.out.v0
      have hBX : BX < w14.heap.size := World.block_lt_of_cell? w14 _ HB14.out.b0
      obtain ⟨y0, y1, y2, y3⟩ := HK15.out.at4 x HX.out
      have z1 := HK15.out.frozen (i * 4 + 1)
      have z2 := HK15.out.frozen (i * 4 + 2)
      have z3 := HK15.out.frozen (i * 4 + 3)
      have b0 := HB15.out.b0
      have b1 := HB15.out.b1
      have b2 := HB15.out.b2
      rw [hnum] at b0 y1
      have hi0 : (0 : Int) ≤ (i : Int) := by omega
      have hi1 : (i : Int) < 6 := by omega
      clear hbk15 hb15 HG14 HB14 W14
      go_wp2_with fail
      clear z1 z2 z3 y0 y1 y2 y3
      show Calls Tryz.prog 23 _ (setV w15 g15 i false zeros 0) _
      obtain ⟨X1, X2⟩ := setV_own HK15.out x ⟨x.name, false, zeros, 0⟩ HX.out rfl
      simp only at X1 X2
      have hs15b := HB15.out
      have b0' := (World.cell?_of_block (X2.block BX (World.block_lt_of_cell? w15 _ b0) (by simp; omega))).trans b0
      have b1' := (World.cell?_of_block (X2.block BX (World.block_lt_of_cell? w15 _ b0) (by simp; omega))).trans b1
      have b2' := (World.cell?_of_block (X2.block BX (World.block_lt_of_cell? w15 _ b0) (by simp; omega))).trans b2
      have W16 := Lib.hid (W15.out.grown X2 hs15 (fun j hj => by cases hj; omega))
      have hs16 := W16.out.size
      have HX1 := Lib.hid X1
      clear X1 X2 b0 b1 b2 HK15 HB15 W15 hs15b
      generalize setV w15 g15 i false zeros 0 = w16 at b0' b1' b2' W16 hs16 HX1 ⊢
      refine (check_value g15 c15 6 _ w16 HX1.out (by rw [List.length_set, hl6]) (by omega) i hi6 (odd_ok HM.out.made i _) ⟨x.name, false, zeros, 0⟩ (by rw [List.getElem?_set_self (by omega)]) (HM.out.made.ok i x HX.out).name (odd_dup HM.out.made HX.out _) HRB.out).mono ?_
      rintro e w17 ⟨rfl, hb17⟩
      have c0 := cell_bel hb17 b0'
      have c1 := cell_bel hb17 b1'
      have c2 := cell_bel hb17 b2'
      have W17 := Lib.hid (W16.out.trans (hb17.mono hs16))
      have hs17 := W17.out.size
      clear hb17 b0' b1' b2' W16 HX1
      go_wp2_with fail
      refine (text_bad false zeros 0 w17 HRB.out).mono ?_
      rintro e w18 ⟨rfl, hb18⟩
      have d0 := cell_bel hb18 c0
      have d1 := cell_bel hb18 c1
      have d2 := cell_bel hb18 c2
      have W18 := Lib.hid (W17.out.trans (hb18.mono hs17))
      have hs18 := W18.out.size
      clear hb18 c0 c1 c2 W17
      go_wp2_with fail
      have hr := right_calls false zeros 0 w18
      rw [HRB.out] at hr
      refine hr.mono ?_
      rintro e w19 ⟨rfl, hb19⟩
      have W19 := Lib.hid (W18.out.trans (hb19.mono hs18))
      clear hr hb19 W18
      go_wp2_with fail
      go_ret
      exact ⟨rfl, W19.out⟩

  · rw [hnum] at a1 hcv
    simp only [Bool.not_true] at hcv
    have hbx := boxes_new w2 x ⟨#[120]⟩ bits (.cells zeroRow 5)
    have hbb := four_bel w2 (.cells #[.string x.name, .bool x.num, .string x.text, .float .f64 x.flt] 37) (.cells #[.bool (!x.num), .string ⟨#[]⟩, .float .f64 0] 35) (.cells zeroRow 5) (.cells #[.bool x.num, .string ⟨#[120]⟩, .float .f64 bits] 35)
    rw [hnum] at hbx hbb
    simp only [Bool.not_true] at hbx hbb
    have HRB : Hid (rightB true ⟨#[120]⟩ bits = false) := Lib.hid (right_x bits)
    go_wp2_with fail
    generalize ((((w2.alloc (.cells #[.string x.name, .bool true, .string x.text, .float .f64 x.flt] 37)).alloc (.cells #[.bool false, .string ⟨#[]⟩, .float .f64 0] 35)).alloc (.cells zeroRow 5)).alloc (.cells #[.bool true, .string ⟨#[120]⟩, .float .f64 bits] 35)) = w3 at hbx hbb ⊢
    have HBx := Lib.hid hbx
    have HS3 := Lib.hid (HM.out.st.bel hbb)
    have HG3 := Lib.hid (HM.out.blk.bel hbb)
    have W3 := Lib.hid (W2.out.trans (hbb.mono hs2))
    have hs3 := W3.out.size
    generalize w2.heap.size + 1 + 1 + 1 = BX at HBx ⊢
    generalize w2.heap.size + 1 = OX at HBx ⊢
    generalize w2.heap.size = VX at HBx ⊢
    clear hbx hbb hmk hcv a0 a1 a2 a3 x0 x1 x2
    refine (copy_calls (n := 6) (m := 6) HS3.out hl6.symm hl6.symm (by omega) (by omega) (by omega) (by omega)).mono ?_
    rintro e w4 ⟨T, BN, K, G, ck, cg, rfl, ⟨t1, t2, t3, t4⟩, hst4, hb4⟩
    have HS4 := Lib.hid (HS3.out.bel hb4)
    have HT4 := Lib.hid hst4
    have HG4 := Lib.hid (HG3.out.bel hb4)
    have HB4 := Lib.hid (HBx.out.bel hb4)
    have W4 := Lib.hid (W3.out.trans (hb4.mono hs3))
    have hs4 := W4.out.size
    clear hst4 hb4 t1 t2 t3 t4 HS3 HG3 HBx W3
    by_cases hin : nm ∈ xs.map (·.name)
    · have HIN : ∃ (k : Nat) (z : VarD), xs[k]? = some z ∧ z.name = nm := by
        obtain ⟨z, hz, e⟩ := List.mem_map.1 hin
        obtain ⟨k, hk⟩ := List.mem_iff_getElem?.1 hz
        exact ⟨k, z, hk, e⟩
      obtain ⟨kz, z, hkz, rfl⟩ := HIN
      clear hin
      have HZ := Lib.hid hkz
      clear hkz
      go_wp2_with fail
      refine (get_store HS4.out HM.out.made.named kz z HZ.out).mono ?_
      rintro e w5 ⟨rfl, hb5⟩
      have ba : Below w4.heap.size w4 (w5.alloc (.cells #[.bool z.num, .string z.text, .float .f64 z.flt] 35)) := hb5.alloc hb5.size _
      have HS5 := Lib.hid (HS4.out.bel ba)
      have HT5 := Lib.hid (HT4.out.bel ba)
      have HG5 := Lib.hid (HG4.out.bel ba)
      have HB5 := Lib.hid (HB4.out.bel ba)
      have W5 := Lib.hid (W4.out.trans (ba.mono hs4))
      have hs5 := W5.out.size
      have v0 := HB5.out.v0
      have o0 := HB5.out.o0
      have o1 := HB5.out.o1
      have o2 := HB5.out.o2
      rw [hnum] at o0
      clear hb5 ba HS4 HT4 HG4 HB4 W4
      go_wp2_with fail
      have hkd := set_kind HS5.out HM.out.made.named i x HX.out false (by rw [hnum]; decide) ⟨#[]⟩ 0
      refine hkd.mono ?_
      rintro e w6 ⟨rfl, hb6⟩
      have HS6 := Lib.hid (HS5.out.bel hb6)
      have HT6 := Lib.hid (HT5.out.bel hb6)
      have HG6 := Lib.hid (HG5.out.bel hb6)
      have HB6 := Lib.hid (HB5.out.bel hb6)
      have W6 := Lib.hid (W5.out.trans (hb6.mono hs5))
      have hs6 := W6.out.size
      have v0 := HB6.out.v0
      have b0 := HB6.out.b0
      have b1 := HB6.out.b1
      have b2 := HB6.out.b2
      rw [hnum] at b0
      clear hkd hb6 HS5 HT5 HG5 HB5 W5 o0 o1 o2
      go_wp2_with fail
      have hkv := set_value HS6.out HM.out.made.named i x HX.out ⟨#[120]⟩ bits (by rw [hnum]; exact HRB.out)
      rw [hnum] at hkv
      refine hkv.mono ?_
      rintro e w7 ⟨rfl, hb7⟩
      have HS7 := Lib.hid (HS6.out.bel hb7)
      have HT7 := Lib.hid (HT6.out.bel hb7)
      have HG7 := Lib.hid (HG6.out.bel hb7)
      have HB7 := Lib.hid (HB6.out.bel hb7)
      have W7 := Lib.hid (W6.out.trans (hb7.mono hs6))
      have hs7 := W7.out.size
      have v1 := HB7.out.v1
      have v2 := HB7.out.v2
      have v3 := HB7.out.v3
      rw [hnum] at v1
      clear hkv hb7 HS6 HT6 HG6 HB6 W6 v0 b0 b1 b2
      go_wp2_with fail
      refine (vsame_calls HS7.out HT7.out (by omega) (by omega)).mono ?_
      rw [eqAll_self]
      rintro e w9 ⟨rfl, hb9⟩
      have HG9 := Lib.hid (HG7.out.bel hb9)
      have HB9 := Lib.hid (HB7.out.bel hb9)
      have W9 := Lib.hid (W7.out.trans (hb9.mono hs7))
      have hs9 := W9.out.size
      clear hb9 HS7 HT7 HG7 HB7 W7 v1 v2 v3
      go_wp2_with fail
      refine wp_normal (rW16 g cp VX x xs w9 _ _ _ _ _ _ _ _ _ _ _ _ _ _ _ _ _ _ _ _ _ _ _ _ _ _ _ _ _ _ _ _ _ _ _ _ _ _ _ _ _ _ _ _ _ _ _ _ _ _ _ _ _ _ _ _ _ _ _ _ _ _ _ _ _ _ _ _ _ _ _ _ _ _ _ _ _ _ _ _ _ _ _ _ _ _ _ _ _ _ _ _ _ _ _ _ _ _ _ _ _ _ _ _ _ _ _ _ _ _ _ _ _ _ _ _ _ _ _ _ _ _ _ _ _ _ _ _ _ _ _ _ _ _ _ _ _ _ _ _ _ _ _ _ _ _ _ _ _ _ _ _ _ _ _ _ _ _ _ _ _ _ _ _ _ _ _ _ _ _ _ _ _ _ _ _ _ _ _ _ _ _ _ _ _ _ hl6 HG9 HB9.out.v0 HB9.out.v1 HB9.out.v2 HB9.out.v3 ?_)
      intro _ _ _ _ _ w10 g10 c10 hb10 hbel10
      have HT10 := Lib.hid hb10
      have HG10 := Lib.hid (HG9.out.bel hbel10)
      have HB10 := Lib.hid (HB9.out.bel hbel10)
      have W10 := Lib.hid (W9.out.trans (hbel10.mono hs9))
      have hs10 := W10.out.size
      clear hb10 hbel10 HG9 HB9 W9
      have hl7 : 7 = (xs ++ [x]).length := by rw [List.length_append, hl6]; rfl
      go_wp2_with fail
      refine (check_twice g10 c10 7 (xs ++ [x]) w10 HT10.out hl7 (by omega) 6 (by omega) (twice_ok x HM.out.made) x (twice_at x HM.out.made) (HM.out.made.ok i x HX.out).name (twice_dup HM.out.made HX.out)).mono ?_
      rintro e w11 ⟨rfl, hb11⟩
      have HT11 := Lib.hid (HT10.out.bel hb11)
      have HG11 := Lib.hid (HG10.out.bel hb11)
      have HB11 := Lib.hid (HB10.out.bel hb11)
      have W11 := Lib.hid (W10.out.trans (hb11.mono hs10))
      have hs11 := W11.out.size
      clear hb11 HT10 HG10 HB10 W10
      go_wp2_with fail
      refine (new_twice g10 c10 7 (xs ++ [x]) w11 HT11.out hl7 (by omega) 6 (by omega) (twice_ok x HM.out.made) x (twice_at x HM.out.made) (HM.out.made.ok i x HX.out).name (twice_dup HM.out.made HX.out)).mono ?_
      rintro e w12 ⟨rfl, hb12⟩
      have HG12 := Lib.hid (HG11.out.bel hb12)
      have HB12 := Lib.hid (HB11.out.bel hb12)
      have W12 := Lib.hid (W11.out.trans (hb12.mono hs11))
      have hs12 := W12.out.size
      have v0 := HB12.out.v0
      have v1 := HB12.out.v1
      have v2 := HB12.out.v2
      have v3 := HB12.out.v3
      rw [hnum] at v1
      clear hb12 hl7 HT11 HG11 HB11 W11
      go_wp2_with fail
      have hbk := blk1 w12 x
      rw [hnum] at hbk
      have bc := (Below.refl w12.heap.size w12).alloc (Nat.le_refl _) (.cells #[.string x.name, .bool true, .string x.text, .float .f64 x.flt] 37)
      refine (repeat13 w12.heap.size 1 x _ hbk).mono ?_
      rintro e w13 ⟨g13, c13, rfl, hb13⟩
      have bd := bc.trans (hb13.mono bc.size)
      have HG13 := Lib.hid (HG12.out.bel bd)
      have HB13 := Lib.hid (HB12.out.bel bd)
      have W13 := Lib.hid (W12.out.trans (bd.mono hs12))
      have hs13 := W13.out.size
      clear hb13 bc bd hbk HG12 HB12 W12 v0 v1 v2 v3
      go_wp2_with fail
      refine (check_many g13 c13 13 w13 (by omega) (by omega)).mono ?_
      rintro e w14 ⟨rfl, hb14⟩
      have HG14 := Lib.hid (HG13.out.bel hb14)
      have HB14 := Lib.hid (HB13.out.bel hb14)
      have W14 := Lib.hid (W13.out.trans (hb14.mono hs13))
      have hs14 := W14.out.size
      clear hb14 HG13 HB13 W13
      go_wp2_with fail
      refine (clone_calls g cp 6 xs w14 HG14.out (by omega) hl6.symm (by omega)).mono ?_
      rintro e w15 ⟨g15, c15, rfl, hg15, hbk15, hb15⟩
      have HK15 := Lib.hid hbk15
      have HB15 := Lib.hid (HB14.out.bel hb15)
      have W15 := Lib.hid (W14.out.trans (hb15.mono hs14))
      have hs15 := W15.out.size
      have hVX : VX < w14.heap.size := World.block_lt_of_cell? w14 _ HB14.out.v0
      have hBX : BX < w14.heap.size := World.block_lt_of_cell? w14 _ HB14.out.b0
      obtain ⟨y0, y1, y2, y3⟩ := HK15.out.at4 x HX.out
      have z1 := HK15.out.frozen (i * 4 + 1)
      have z2 := HK15.out.frozen (i * 4 + 2)
      have z3 := HK15.out.frozen (i * 4 + 3)
      have b0 := HB15.out.b0
      have b1 := HB15.out.b1
      have b2 := HB15.out.b2
      rw [hnum] at b0 y1
      have hi0 : (0 : Int) ≤ (i : Int) := by omega
      have hi1 : (i : Int) < 6 := by omega
      clear hbk15 hb15 HG14 HB14 W14
      go_wp2_with fail
      clear z1 z2 z3 y0 y1 y2 y3
      show Calls Tryz.prog 23 _ (setV w15 g15 i true ⟨#[120]⟩ bits) _
      obtain ⟨X1, X2⟩ := setV_own HK15.out x ⟨x.name, true, ⟨#[120]⟩, bits⟩ HX.out rfl
      simp only at X1 X2
      have hs15b := HB15.out
      have b0' := (World.cell?_of_block (X2.block BX (World.block_lt_of_cell? w15 _ b0) (by simp; omega))).trans b0
      have b1' := (World.cell?_of_block (X2.block BX (World.block_lt_of_cell? w15 _ b0) (by simp; omega))).trans b1
      have b2' := (World.cell?_of_block (X2.block BX (World.block_lt_of_cell? w15 _ b0) (by simp; omega))).trans b2
      have W16 := Lib.hid (W15.out.grown X2 hs15 (fun j hj => by cases hj; omega))
      have hs16 := W16.out.size
      have HX1 := Lib.hid X1
      clear X1 X2 b0 b1 b2 HK15 HB15 W15 hs15b
      generalize setV w15 g15 i true ⟨#[120]⟩ bits = w16 at b0' b1' b2' W16 hs16 HX1 ⊢
      refine (check_value g15 c15 6 _ w16 HX1.out (by rw [List.length_set, hl6]) (by omega) i hi6 (odd_ok HM.out.made i _) ⟨x.name, true, ⟨#[120]⟩, bits⟩ (by rw [List.getElem?_set_self (by omega)]) (HM.out.made.ok i x HX.out).name (odd_dup HM.out.made HX.out _) HRB.out).mono ?_
      rintro e w17 ⟨rfl, hb17⟩
      have c0 := cell_bel hb17 b0'
      have c1 := cell_bel hb17 b1'
      have c2 := cell_bel hb17 b2'
      have W17 := Lib.hid (W16.out.trans (hb17.mono hs16))
      have hs17 := W17.out.size
      clear hb17 b0' b1' b2' W16 HX1
      go_wp2_with fail
      refine (text_bad true ⟨#[120]⟩ bits w17 HRB.out).mono ?_
      rintro e w18 ⟨rfl, hb18⟩
      have d0 := cell_bel hb18 c0
      have d1 := cell_bel hb18 c1
      have d2 := cell_bel hb18 c2
      have W18 := Lib.hid (W17.out.trans (hb18.mono hs17))
      have hs18 := W18.out.size
      clear hb18 c0 c1 c2 W17
      go_wp2_with fail
      have hr := right_calls true ⟨#[120]⟩ bits w18
      rw [HRB.out] at hr
      refine hr.mono ?_
      rintro e w19 ⟨rfl, hb19⟩
      have W19 := Lib.hid (W18.out.trans (hb19.mono hs18))
      clear hr hb19 W18
      go_wp2_with fail
      go_ret
      exact ⟨rfl, W19.out⟩
    · have HIN := Lib.hid hin
      clear hin
      go_wp2_with fail
      refine (get_miss S BM _ nm w4 HS4.out.c1 HS4.out.map HNM.out HIN.out).mono ?_
      rintro e w5 ⟨rfl, hb5⟩
      have ba : Below w4.heap.size w4 (w5.alloc (.cells #[.bool false, .string ⟨#[]⟩, .float .f64 0] 35)) := hb5.alloc hb5.size _
      have HS5 := Lib.hid (HS4.out.bel ba)
      have HT5 := Lib.hid (HT4.out.bel ba)
      have HG5 := Lib.hid (HG4.out.bel ba)
      have HB5 := Lib.hid (HB4.out.bel ba)
      have W5 := Lib.hid (W4.out.trans (ba.mono hs4))
      have hs5 := W5.out.size
      have v0 := HB5.out.v0
      have o0 := HB5.out.o0
      have o1 := HB5.out.o1
      have o2 := HB5.out.o2
      rw [hnum] at o0
      clear hb5 ba HS4 HT4 HG4 HB4 W4
      go_wp2_with fail
      have hkd := set_kind HS5.out HM.out.made.named i x HX.out false (by rw [hnum]; decide) ⟨#[]⟩ 0
      refine hkd.mono ?_
      rintro e w6 ⟨rfl, hb6⟩
      have HS6 := Lib.hid (HS5.out.bel hb6)
      have HT6 := Lib.hid (HT5.out.bel hb6)
      have HG6 := Lib.hid (HG5.out.bel hb6)
      have HB6 := Lib.hid (HB5.out.bel hb6)
      have W6 := Lib.hid (W5.out.trans (hb6.mono hs5))
      have hs6 := W6.out.size
      have v0 := HB6.out.v0
      have b0 := HB6.out.b0
      have b1 := HB6.out.b1
      have b2 := HB6.out.b2
      rw [hnum] at b0
      clear hkd hb6 HS5 HT5 HG5 HB5 W5 o0 o1 o2
      go_wp2_with fail
      have hkv := set_value HS6.out HM.out.made.named i x HX.out ⟨#[120]⟩ bits (by rw [hnum]; exact HRB.out)
      rw [hnum] at hkv
      refine hkv.mono ?_
      rintro e w7 ⟨rfl, hb7⟩
      have HS7 := Lib.hid (HS6.out.bel hb7)
      have HT7 := Lib.hid (HT6.out.bel hb7)
      have HG7 := Lib.hid (HG6.out.bel hb7)
      have HB7 := Lib.hid (HB6.out.bel hb7)
      have W7 := Lib.hid (W6.out.trans (hb7.mono hs6))
      have hs7 := W7.out.size
      have v1 := HB7.out.v1
      have v2 := HB7.out.v2
      have v3 := HB7.out.v3
      rw [hnum] at v1
      clear hkv hb7 HS6 HT6 HG6 HB6 W6 v0 b0 b1 b2
      go_wp2_with fail
      refine (set_name HS7.out nm HNM.out HIN.out true x.text x.flt).mono ?_
      rintro e w8 ⟨rfl, hb8⟩
      have HS8 := Lib.hid (HS7.out.bel hb8)
      have HT8 := Lib.hid (HT7.out.bel hb8)
      have HG8 := Lib.hid (HG7.out.bel hb8)
      have HB8 := Lib.hid (HB7.out.bel hb8)
      have W8 := Lib.hid (W7.out.trans (hb8.mono hs7))
      have hs8 := W8.out.size
      clear hb8 HS7 HT7 HG7 HB7 W7
      go_wp2_with fail
      refine (vsame_calls HS8.out HT8.out (by omega) (by omega)).mono ?_
      rw [eqAll_self]
      rintro e w9 ⟨rfl, hb9⟩
      have HG9 := Lib.hid (HG8.out.bel hb9)
      have HB9 := Lib.hid (HB8.out.bel hb9)
      have W9 := Lib.hid (W8.out.trans (hb9.mono hs8))
      have hs9 := W9.out.size
      clear hb9 HS8 HT8 HG8 HB8 W8 v1 v2 v3
      go_wp2_with fail
      refine wp_normal (rW16 g cp VX x xs w9 _ _ _ _ _ _ _ _ _ _ _ _ _ _ _ _ _ _ _ _ _ _ _ _ _ _ _ _ _ _ _ _ _ _ _ _ _ _ _ _ _ _ _ _ _ _ _ _ _ _ _ _ _ _ _ _ _ _ _ _ _ _ _ _ _ _ _ _ _ _ _ _ _ _ _ _ _ _ _ _ _ _ _ _ _ _ _ _ _ _ _ _ _ _ _ _ _ _ _ _ _ _ _ _ _ _ _ _ _ _ _ _ _ _ _ _ _ _ _ _ _ _ _ _ _ _ _ _ _ _ _ _ _ _ _ _ _ _ _ _ _ _ _ _ _ _ _ _ _ _ _ _ _ _ _ _ _ _ _ _ _ _ _ _ _ _ _ _ _ _ _ _ _ _ _ _ _ _ _ _ _ _ _ _ _ _ hl6 HG9 HB9.out.v0 HB9.out.v1 HB9.out.v2 HB9.out.v3 ?_)
      intro _ _ _ _ _ w10 g10 c10 hb10 hbel10
      have HT10 := Lib.hid hb10
      have HG10 := Lib.hid (HG9.out.bel hbel10)
      have HB10 := Lib.hid (HB9.out.bel hbel10)
      have W10 := Lib.hid (W9.out.trans (hbel10.mono hs9))
      have hs10 := W10.out.size
      clear hb10 hbel10 HG9 HB9 W9
      have hl7 : 7 = (xs ++ [x]).length := by rw [List.length_append, hl6]; rfl
      go_wp2_with fail
      refine (check_twice g10 c10 7 (xs ++ [x]) w10 HT10.out hl7 (by omega) 6 (by omega) (twice_ok x HM.out.made) x (twice_at x HM.out.made) (HM.out.made.ok i x HX.out).name (twice_dup HM.out.made HX.out)).mono ?_
      rintro e w11 ⟨rfl, hb11⟩
      have HT11 := Lib.hid (HT10.out.bel hb11)
      have HG11 := Lib.hid (HG10.out.bel hb11)
      have HB11 := Lib.hid (HB10.out.bel hb11)
      have W11 := Lib.hid (W10.out.trans (hb11.mono hs10))
      have hs11 := W11.out.size
      clear hb11 HT10 HG10 HB10 W10
      go_wp2_with fail
      refine (new_twice g10 c10 7 (xs ++ [x]) w11 HT11.out hl7 (by omega) 6 (by omega) (twice_ok x HM.out.made) x (twice_at x HM.out.made) (HM.out.made.ok i x HX.out).name (twice_dup HM.out.made HX.out)).mono ?_
      rintro e w12 ⟨rfl, hb12⟩
      have HG12 := Lib.hid (HG11.out.bel hb12)
      have HB12 := Lib.hid (HB11.out.bel hb12)
      have W12 := Lib.hid (W11.out.trans (hb12.mono hs11))
      have hs12 := W12.out.size
      have v0 := HB12.out.v0
      have v1 := HB12.out.v1
      have v2 := HB12.out.v2
      have v3 := HB12.out.v3
      rw [hnum] at v1
      clear hb12 hl7 HT11 HG11 HB11 W11
      go_wp2_with fail
      have hbk := blk1 w12 x
      rw [hnum] at hbk
      have bc := (Below.refl w12.heap.size w12).alloc (Nat.le_refl _) (.cells #[.string x.name, .bool true, .string x.text, .float .f64 x.flt] 37)
      refine (repeat13 w12.heap.size 1 x _ hbk).mono ?_
      rintro e w13 ⟨g13, c13, rfl, hb13⟩
      have bd := bc.trans (hb13.mono bc.size)
      have HG13 := Lib.hid (HG12.out.bel bd)
      have HB13 := Lib.hid (HB12.out.bel bd)
      have W13 := Lib.hid (W12.out.trans (bd.mono hs12))
      have hs13 := W13.out.size
      clear hb13 bc bd hbk HG12 HB12 W12 v0 v1 v2 v3
      go_wp2_with fail
      refine (check_many g13 c13 13 w13 (by omega) (by omega)).mono ?_
      rintro e w14 ⟨rfl, hb14⟩
      have HG14 := Lib.hid (HG13.out.bel hb14)
      have HB14 := Lib.hid (HB13.out.bel hb14)
      have W14 := Lib.hid (W13.out.trans (hb14.mono hs13))
      have hs14 := W14.out.size
      clear hb14 HG13 HB13 W13
      go_wp2_with fail
      refine (clone_calls g cp 6 xs w14 HG14.out (by omega) hl6.symm (by omega)).mono ?_
      rintro e w15 ⟨g15, c15, rfl, hg15, hbk15, hb15⟩
      have HK15 := Lib.hid hbk15
      have HB15 := Lib.hid (HB14.out.bel hb15)
      have W15 := Lib.hid (W14.out.trans (hb15.mono hs14))
      have hs15 := W15.out.size
      have hVX : VX < w14.heap.size := World.block_lt_of_cell? w14 _ HB14.out.v0
      have hBX : BX < w14.heap.size := World.block_lt_of_cell? w14 _ HB14.out.b0
      obtain ⟨y0, y1, y2, y3⟩ := HK15.out.at4 x HX.out
      have z1 := HK15.out.frozen (i * 4 + 1)
      have z2 := HK15.out.frozen (i * 4 + 2)
      have z3 := HK15.out.frozen (i * 4 + 3)
      have b0 := HB15.out.b0
      have b1 := HB15.out.b1
      have b2 := HB15.out.b2
      rw [hnum] at b0 y1
      have hi0 : (0 : Int) ≤ (i : Int) := by omega
      have hi1 : (i : Int) < 6 := by omega
      clear hbk15 hb15 HG14 HB14 W14
      go_wp2_with fail
      clear z1 z2 z3 y0 y1 y2 y3
      show Calls Tryz.prog 23 _ (setV w15 g15 i true ⟨#[120]⟩ bits) _
      obtain ⟨X1, X2⟩ := setV_own HK15.out x ⟨x.name, true, ⟨#[120]⟩, bits⟩ HX.out rfl
      simp only at X1 X2
      have hs15b := HB15.out
      have b0' := (World.cell?_of_block (X2.block BX (World.block_lt_of_cell? w15 _ b0) (by simp; omega))).trans b0
      have b1' := (World.cell?_of_block (X2.block BX (World.block_lt_of_cell? w15 _ b0) (by simp; omega))).trans b1
      have b2' := (World.cell?_of_block (X2.block BX (World.block_lt_of_cell? w15 _ b0) (by simp; omega))).trans b2
      have W16 := Lib.hid (W15.out.grown X2 hs15 (fun j hj => by cases hj; omega))
      have hs16 := W16.out.size
      have HX1 := Lib.hid X1
      clear X1 X2 b0 b1 b2 HK15 HB15 W15 hs15b
      generalize setV w15 g15 i true ⟨#[120]⟩ bits = w16 at b0' b1' b2' W16 hs16 HX1 ⊢
      refine (check_value g15 c15 6 _ w16 HX1.out (by rw [List.length_set, hl6]) (by omega) i hi6 (odd_ok HM.out.made i _) ⟨x.name, true, ⟨#[120]⟩, bits⟩ (by rw [List.getElem?_set_self (by omega)]) (HM.out.made.ok i x HX.out).name (odd_dup HM.out.made HX.out _) HRB.out).mono ?_
      rintro e w17 ⟨rfl, hb17⟩
      have c0 := cell_bel hb17 b0'
      have c1 := cell_bel hb17 b1'
      have c2 := cell_bel hb17 b2'
      have W17 := Lib.hid (W16.out.trans (hb17.mono hs16))
      have hs17 := W17.out.size
      clear hb17 b0' b1' b2' W16 HX1
      go_wp2_with fail
      refine (text_bad true ⟨#[120]⟩ bits w17 HRB.out).mono ?_
      rintro e w18 ⟨rfl, hb18⟩
      have d0 := cell_bel hb18 c0
      have d1 := cell_bel hb18 c1
      have d2 := cell_bel hb18 c2
      have W18 := Lib.hid (W17.out.trans (hb18.mono hs17))
      have hs18 := W18.out.size
      clear hb18 c0 c1 c2 W17
      go_wp2_with fail
      have hr := right_calls true ⟨#[120]⟩ bits w18
      rw [HRB.out] at hr
      refine hr.mono ?_
      rintro e w19 ⟨rfl, hb19⟩
      have W19 := Lib.hid (W18.out.trans (hb19.mono hs18))
      clear hr hb19 W18
      go_wp2_with fail
      go_ret
      exact ⟨rfl, W19.out⟩
end Go.Proofs.YtaognphegancbaaGreatDoor
