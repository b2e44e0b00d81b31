/- vars: VarsCopies: the walk. -/
import Derived.Test.YtaognphegancbaaGreatDoorWI
namespace Go.Proofs.YtaognphegancbaaGreatDoor
set_option linter.unusedVariables false
set_option linter.unusedSimpArgs false
open Go.RowKit Go.Maps Go.WideMaps
theorem ActRow.keep {w W : World} {A : Option Addr} {n : Nat} (h : ActRow w A n) (hk : ∀ b, b < w.heap.size → W.heap[b]? = w.heap[b]?) : ActRow W A n := fun h0 => by
  obtain ⟨ad, e, hc⟩ := h h0
  exact ⟨ad, e, fun j hj => by
    obtain ⟨k0, b, t, h1, h2, h3, h4⟩ := hc j hj
    have f : ∀ {a : Addr} {v : Value}, w.cell? a = some v → W.cell? a = some v := fun {a v} h => (World.cell?_of_block (hk a.block (World.block_lt_of_cell? w a h))).trans h
    exact ⟨k0, b, t, h1, f h2, f h3, f h4⟩⟩
theorem chg_nil {cur xs : List VarD} (h : Mk 6 cur) (h2 : Mk 6 xs) : eqAll cur xs = decide (chg (cur.zip xs) = []) := by
  rw [Bool.eq_iff_iff, decide_eq_true_iff]
  unfold eqAll chg
  rw [Bool.and_eq_true, decide_eq_true_iff, List.all_eq_true, List.map_eq_nil_iff, List.filter_eq_nil_iff]
  have hl : cur.length = xs.length := by rw [h.len, h2.len]
  constructor
  · rintro ⟨_, h3⟩ p hp
    have := h3 p hp
    simp only [varEq, Bool.and_eq_true] at this
    simp [sameV, this.2]
  · intro h3
    refine ⟨hl, fun p hp => ?_⟩
    have h4 := h3 p hp
    obtain ⟨i, hi⟩ := List.mem_iff_getElem?.1 hp
    rw [List.getElem?_zip_eq_some] at hi
    have hs := h2.same_at h hi.2 hi.1
    simp only [sameV, Bool.not_eq_true', Bool.not_eq_false] at h4
    simp [varEq, hs.1, h4]
theorem Mk.mix {cur1 cur2 : List VarD} (h1 : Mk 6 cur1) (h2 : Mk 6 cur2) (k : Nat) : Mk 6 (cur1.take k ++ cur2.drop k) := by
  refine ⟨?_, fun x hx => ?_⟩
  · rw [List.map_append, List.map_take, List.map_drop, h1.1, h2.1, List.take_append_drop]
  · rcases List.mem_append.1 hx with hx | hx
    · exact h1.2 x (List.mem_of_mem_take hx)
    · exact h2.2 x (List.mem_of_mem_drop hx)
theorem mix_named {cur1 cur2 : List VarD} (h1 : Mk 6 cur1) (h2 : Mk 6 cur2) (k : Nat) : Named (cur1.take k ++ cur2.drop k) := (h1.mix h2 k).named
/-- The variable at the place that is to be set, and the list behind the setting. -/
theorem mix_at {cur1 cur2 : List VarD} (h1 : Mk 6 cur1) (h2 : Mk 6 cur2) {k : Nat} {y z : VarD} (hy : cur1[k]? = some y) (hz : cur2[k]? = some z) :
    (cur1.take k ++ cur2.drop k)[k]? = some z ∧ z.name = y.name ∧ z.num = y.num ∧ (cur1.take k ++ cur2.drop k).set k ⟨z.name, z.num, y.text, y.flt⟩ = cur1.take (k + 1) ++ cur2.drop (k + 1) := by
  have hk : k < cur1.length := (List.getElem?_eq_some_iff.1 hy).1
  have hk2 : k < cur2.length := (List.getElem?_eq_some_iff.1 hz).1
  have hlen : (cur1.take k).length = k := by rw [List.length_take]; omega
  have hs := h1.same_at h2 hy hz
  refine ⟨?_, hs.1, hs.2, ?_⟩
  · rw [List.getElem?_append_right (by omega), hlen, Nat.sub_self, List.getElem?_drop, Nat.add_zero, hz]
  · have e1 : cur2.drop k = z :: cur2.drop (k + 1) := by
      rw [List.drop_eq_getElem_cons hk2]
      congr 1
      exact (List.getElem?_eq_some_iff.1 hz).2
    rw [e1, hs.1, hs.2, List.set_append_right _ _ (by omega), hlen, Nat.sub_self, List.set_cons_zero, List.take_add_one, hy, List.append_assoc]
    rfl
set_option maxRecDepth 100000 in
set_option maxHeartbeats 4000000 in
theorem varsCopies_calls (kx : Int) (A : Option Addr) (n c : Nat) (A2 : Option Addr) (n2 c2 : Nat) (Al : Option Addr) (nl cl0 : Nat) (Am : Option Addr) (nm cm0 : Nat) (w : World) (hA : SmallB w A n) (hn : n ≤ maxLen) (hL : ActRow w Al nl) (hnl : nl ≤ cl0) (hcl : cl0 ≤ maxLen) (hM : ActRow w Am nm) (hnm : nm ≤ cm0) (hcm : cm0 ≤ maxLen) :
    Calls Tryz.prog 4 #[.agg #[.int .u8 kx, .slice A n c, .slice A2 n2 c2], .slice Al nl cl0, .slice Am nm cm0] w fun e w' => e = .returned (.bool true) ∧ Below w.heap.size w w' := by
  have HA := Lib.hid hA
  have HL := Lib.hid hL
  have HMr := Lib.hid hM
  have HCl := Lib.hid hcl
  have HCm := Lib.hid hcm
  clear hA hL hM hcl hcm
  go_enter Tryz.func4, Tryz.ntmps4
  go_wp2_with fail
  refine (awake_calls _).mono ?_
  rintro e w1 ⟨rfl, hb1⟩
  have W1 := Lib.hid (((Below.refl w.heap.size w).alloc (Nat.le_refl _) (.cells #[.int .u8 kx, .slice A n c, .slice A2 n2 c2] 25)).trans (hb1.mono (by simp)))
  have x0 : w1.cell? ⟨w.heap.size, 0, none⟩ = some (.int .u8 kx) := cell_bel hb1 (by exact World.cell?_alloc_new _ _ _ _)
  have x1 : w1.cell? ⟨w.heap.size, 1, none⟩ = some (.slice A n c) := cell_bel hb1 (by exact World.cell?_alloc_new _ _ _ _)
  have x2 : w1.cell? ⟨w.heap.size, 2, none⟩ = some (.slice A2 n2 c2) := cell_bel hb1 (by exact World.cell?_alloc_new _ _ _ _)
  have hs1 := W1.out.size
  clear hb1
  go_wp2_with fail
  refine (made_calls kx A n c A2 n2 c2 w1 (HA.out.bel W1.out) hn).mono ?_
  rintro e w2 ⟨S, BM, L, F, cl, cf, g, cp, xs, rfl, hm⟩
  have HM := Lib.hid hm
  have W2 := Lib.hid (W1.out.trans (hm.bel.mono hs1))
  have hs2 := W2.out.size
  have hl6 := hm.made.len
  have hg2 := hm.blk.lt
  have hL2 := hm.st.own.lt
  have hS2 : S < w2.heap.size := (Array.getElem?_eq_some_iff.1 hm.st.box).1
  have hF2 := hm.st.fir.lt
  have hB2 := hm.st.map.lt
  have sL := hm.s3
  clear hm x0 x1 x2
  go_wp2_with fail
  have ba : Below w2.heap.size w2 (w2.alloc (.cells #[.slice (some ⟨g, 0, none⟩) 6 cp] 29)) := (Below.refl _ _).alloc (Nat.le_refl _) _
  have HAB := Lib.hid (heap_alloc_new w2 (.cells #[.slice (some ⟨g, 0, none⟩) 6 cp] 29))
  refine (copy_calls (n := 6) (m := 6) (HM.out.st.bel ba) hl6.symm hl6.symm (by omega) (by omega) (by omega) (by omega)).mono ?_
  rintro e w3 ⟨T, BN, K, G, ck, cg, rfl, ⟨t1, t2, t3, t4⟩, hst3, hb3⟩
  simp only [World.size_alloc] at t1 t2 t3 t4
  have HS3 := Lib.hid ((HM.out.st.bel ba).bel hb3)
  have HT3 := Lib.hid hst3
  have HG3 := Lib.hid ((HM.out.blk.bel ba).bel hb3)
  have HAB3 := Lib.hid ((hb3.block w2.heap.size (by simp)).trans HAB.out)
  have W3 := Lib.hid (W2.out.trans ((ba.trans (hb3.mono (by simp))).mono hs2))
  have hs3 : w2.heap.size + 1 ≤ w3.heap.size := by have := hb3.size; simpa using this
  have hK3 := hst3.own.lt
  clear ba hst3 hb3 HAB
  go_wp2_with fail
  refine (vsame_calls HS3.out HT3.out (by omega) (by omega)).mono ?_
  rw [eqAll_self]
  rintro e w4 ⟨rfl, hb4⟩
  have HS4 := Lib.hid (HS3.out.bel hb4)
  have HT4 := Lib.hid (HT3.out.bel hb4)
  have B4 := Lib.hid hb4
  have hs4 := hb4.size
  clear hb4
  go_wp2_with fail
  refine (vsame_calls HT4.out HS4.out (by omega) (by omega)).mono ?_
  rw [eqAll_self]
  rintro e w5 ⟨rfl, hb5⟩
  have hs5 := hb5.size
  have B5 := Lib.hid (B4.out.trans (hb5.mono hs4))
  have HS5 := Lib.hid (HS4.out.bel hb5)
  have HT5 := Lib.hid (HT4.out.bel hb5)
  have HG5 := Lib.hid (HG3.out.bel B5.out)
  have HA5 := Lib.hid ((B5.out.block w2.heap.size (by omega)).trans HAB3.out)
  have W5 := Lib.hid (W3.out.trans (B5.out.mono W3.out.size))
  have hws5 := W5.out.size
  clear hb5 HS3 HT3 HS4 HT4 B4 B5 HG3 HAB3
  have hgL := HM.out.gL
  go_wp2_with fail
  refine (do_calls S BM L F cl cf g cp w2.heap.size xs xs xs Al nl cl0 w5 HS5.out HM.out.made HM.out.made HG5.out hgL HA5.out (by omega) (fun W hW => HL.out.keep (fun b hb => (hW.block b (by omega) (by simp; omega)).trans (W5.out.block b hb))) hnl HCl.out).mono ?_
  rintro e w6 ⟨rfl, ⟨cur1, hmk1, hst6⟩, hg6⟩
  have hs6 := hg6.size
  have HMk1 := Lib.hid hmk1
  have hl1 := hmk1.len
  have HS6 := Lib.hid hst6
  have HT6 := Lib.hid (HT5.out.by_ hg6 (by omega) (by omega) (by omega) (by omega))
  have HG6 := Lib.hid (HG5.out.move (hg6.block g (by omega) (by simpa using hgL)))
  have HA6 := Lib.hid ((hg6.block w2.heap.size (by omega) (by simp; omega)).trans HA5.out)
  have W6 := Lib.hid (W5.out.grown hg6 hws5 (fun j hj => by cases hj; omega))
  have hws6 := W6.out.size
  clear hmk1 hst6 hg6 HS5 HT5 HG5 HA5 W5
  go_wp2_with fail
  refine (changed_all HT6.out rfl (by omega)).mono ?_
  rintro e w7 ⟨v7, rfl, _, hnil7, hb7⟩
  obtain rfl := hnil7.2 (chg_self xs)
  have HS7 := Lib.hid (HS6.out.bel hb7)
  have HT7 := Lib.hid (HT6.out.bel hb7)
  have B7 := Lib.hid hb7
  have hs7 := hb7.size
  clear hnil7 hb7
  go_wp2_with fail
  refine (vsame_calls HS7.out HT7.out (by omega) (by omega)).mono ?_
  rw [chg_nil HMk1.out HM.out.made]
  rintro e w8 ⟨rfl, hb8⟩
  have HS8 := Lib.hid (HS7.out.bel hb8)
  have HT8 := Lib.hid (HT7.out.bel hb8)
  have B8 := Lib.hid (B7.out.trans (hb8.mono hs7))
  have hs8 := hb8.size
  clear hb8 HS6 HT6 HS7 HT7 B7
  go_wp2_with fail
  refine (changed_all HS8.out (by omega) (by omega)).mono ?_
  rintro e w9 ⟨v9, rfl, hr9, hnil9, hb9⟩
  have hs9 := hb9.size
  have HS9 := Lib.hid (HS8.out.bel hb9)
  have HT9 := Lib.hid (HT8.out.bel hb9)
  have B9 := Lib.hid (B8.out.trans (hb9.mono (by omega)))
  have HG9 := Lib.hid (HG6.out.bel B9.out)
  have HA9 := Lib.hid ((B9.out.block w2.heap.size (by omega)).trans HA6.out)
  have W9 := Lib.hid (W6.out.trans (B9.out.mono hws6))
  have hws9 := W9.out.size
  obtain ⟨a9, m9, cc9, hv9, hz9⟩ : ∃ (a : Option Addr) (mm cc : Nat), v9 = .slice a mm cc ∧ ((mm : Int) == 0) = decide (chg (cur1.zip xs) = []) := by
    by_cases h0 : chg (cur1.zip xs) = []
    · exact ⟨none, 0, 0, hnil9.2 h0, by simp [h0]⟩
    · obtain ⟨gg, cc, he, _⟩ := own_block hr9 (List.length_pos_iff.2 h0)
      refine ⟨_, _, cc, he, ?_⟩
      have := List.length_pos_iff.2 h0
      simp [h0]
  subst hv9
  clear hr9 hnil9 hb9 HS8 HT8 B8 B9 HG6 HA6 W6
  generalize decide (chg (cur1.zip xs) = []) = db at hz9 ⊢
  go_wp2_with fail
  refine (copy_calls (n := 6) (m := 6) HS9.out hl1.symm hl6.symm (by omega) (by omega) (by omega) (by omega)).mono ?_
  rintro e w10 ⟨U, BU, KU, GU, cku, cgu, rfl, ⟨u1, u2, u3, u4⟩, hst10, hb10⟩
  have hs10 := hb10.size
  have HU10 := Lib.hid hst10
  have HS10 := Lib.hid (HS9.out.bel hb10)
  have HT10 := Lib.hid (HT9.out.bel hb10)
  have HG10 := Lib.hid (HG9.out.bel hb10)
  have HA10 := Lib.hid ((hb10.block w2.heap.size (by omega)).trans HA9.out)
  have W10 := Lib.hid (W9.out.trans (hb10.mono hws9))
  have hws10 := W10.out.size
  clear hst10 hb10 HS9 HT9 HG9 HA9 W9
  go_wp2_with fail
  refine (do_calls T BN K G ck cg g cp w2.heap.size xs xs xs Am nm cm0 w10 HT10.out HM.out.made HM.out.made HG10.out (by omega) HA10.out (by omega) (fun W hW => HMr.out.keep (fun b hb => (hW.block b (by omega) (by simp; omega)).trans (W10.out.block b hb))) hnm HCm.out).mono ?_
  rintro e w11 ⟨rfl, ⟨cur2, hmk2, hst11⟩, hg11⟩
  have hs11 := hg11.size
  have HMk2 := Lib.hid hmk2
  have hl2 := hmk2.len
  have HT11 := Lib.hid hst11
  have HS11 := Lib.hid (HS10.out.by_ hg11 (by omega) (by omega) (by omega) (by omega))
  have HU11 := Lib.hid (HU10.out.by_ hg11 (by omega) (by omega) (by omega) (by omega))
  have W11 := Lib.hid (W10.out.grown hg11 hws10 (fun j hj => by cases hj; omega))
  have hws11 := W11.out.size
  clear hmk2 hst11 hg11 HS10 HT10 HU10 HG10 HA10 W10
  go_wp2_with fail
  refine (vsame_calls HS11.out HU11.out (by omega) (by omega)).mono ?_
  rw [eqAll_self]
  rintro e w12 ⟨rfl, hb12⟩
  have hs12 := hb12.size
  have HS12 := Lib.hid (HS11.out.bel hb12)
  have HT12 := Lib.hid (HT11.out.bel hb12)
  have W12 := Lib.hid (W11.out.trans (hb12.mono hws11))
  have hws12 := W12.out.size
  clear hb12 HS11 HT11 HU11 W11
  go_wp2_with fail
  refine (all_six HS12.out hl1).mono ?_
  rintro e w13 ⟨gA, cA, rfl, hgA, hbA, hb13⟩
  have hs13 := hb13.size
  have HS13 := Lib.hid (HS12.out.bel hb13)
  have HT13 := Lib.hid (HT12.out.bel hb13)
  have HA13 := Lib.hid hbA
  have W13 := Lib.hid (W12.out.trans (hb13.mono hws12))
  have hws13 := W13.out.size
  have hgA13 := hbA.lt
  have hK12 : K < w12.heap.size := HT12.out.own.lt
  clear hbA hb13 HS12 HT12 W12
  go_wp2_with fail
  go_loopw [81] (fun vi wr => ∃ k : Nat, k ≤ 6 ∧ vi = .int .i64 k ∧ (IsStore wr T BN K G ck cg (cur1.take k ++ cur2.drop k) xs ∧ IsStore wr S BM L F cl cf cur1 xs ∧ Blk wr gA cA cur1) ∧ Below w.heap.size w wr ∧ w13.heap.size ≤ wr.heap.size) (fun vi _ => 6 - (intOf vi).toNat)
  case atStart => exact ⟨0, by omega, rfl, ⟨by simpa using HT13.out, HS13.out, HA13.out⟩, W13.out, Nat.le_refl _⟩
  case round =>
    obtain ⟨k, hk, rfl, ⟨hT, hS, hA⟩, hbr, hsr⟩ := hrel
    have HTr := Lib.hid hT
    have HSr := Lib.hid hS
    have HAr := Lib.hid hA
    have HW := Lib.hid hbr
    have hwr := hbr.size
    clear hT hS hA hbr
    by_cases hlt : k < 6
    · obtain ⟨y, hy⟩ : ∃ y, cur1[k]? = some y := ⟨_, List.getElem?_eq_getElem (by omega)⟩
      obtain ⟨z, hz⟩ : ∃ z, cur2[k]? = some z := ⟨_, List.getElem?_eq_getElem (by omega)⟩
      obtain ⟨a0, a1, a2, a3⟩ := HAr.out.at4 y hy
      have HMix := Lib.hid (mix_at HMk1.out HMk2.out hy hz)
      have HNm := Lib.hid (mix_named HMk1.out HMk2.out k)
      have HRy := Lib.hid (HMk1.out.2 y (List.mem_of_getElem? hy))
      have lgA : gA < wr.heap.size := by omega
      clear hy hz
      go_wp2_with fail
      have hal : Below wr.heap.size wr (wr.alloc (.cells #[.string y.name, .bool y.num, .string y.text, .float .f64 y.flt] 37)) := (Below.refl _ wr).alloc (Nat.le_refl _) _
      have hset := set_store (HTr.out.bel hal) HNm.out k z HMix.out.1 y.text y.flt (by rw [HMix.out.2.2.1]; exact HRy.out)
      have e4 := HMix.out.2.2.2
      rw [HMix.out.2.1, HMix.out.2.2.1] at hset e4
      rw [e4] at hset
      refine hset.mono ?_
      rintro e w5 ⟨rfl, hst5, hg5⟩
      have hs5b := hg5.size
      simp only [World.size_alloc] at hs5b
      have HT5 := Lib.hid hst5
      have HS5 := Lib.hid ((HSr.out.bel hal).by_ hg5 (by omega) (by omega) (by omega) (by omega))
      have HA5 := Lib.hid ((HAr.out.bel hal).move (hg5.block gA (by simp; omega) (by simp; omega)))
      have HW5 := Lib.hid ((HW.out.trans (hal.mono hwr)).grown hg5 (by simp; omega) (fun j hj => by cases hj; omega))
      clear hal hset e4 hst5 hg5 a0 a1 a2 a3
      go_wp2_with fail
      go_roundw
      case rel => exact ⟨k + 1, by omega, by go_num, ⟨HT5.out, HS5.out, HA5.out⟩, HW5.out, by omega⟩
      case measure => simp [intOf]; omega
    · obtain rfl : k = 6 := by omega
      have e6 : cur1.take 6 ++ cur2.drop 6 = cur1 := by
        rw [List.take_of_length_le (by omega), List.drop_eq_nil_of_le (by omega), List.append_nil]
      have HT6 := Lib.hid (by have := HTr.out; rw [e6] at this; exact this)
      clear HTr e6
      go_wp2_with fail
      refine (vsame_calls HSr.out HT6.out (by omega) (by omega)).mono ?_
      rw [eqAll_self]
      rintro e w14 ⟨rfl, hb14⟩
      have hs14 := hb14.size
      have HS14 := Lib.hid (HSr.out.bel hb14)
      have HT14 := Lib.hid (HT6.out.bel hb14)
      have W14 := Lib.hid (HW.out.trans (hb14.mono hwr))
      clear hb14
      go_wp2_with fail
      refine (changed_all HS14.out (by omega) (by omega)).mono ?_
      rintro e w15 ⟨va, rfl, hra, hna, hb15⟩
      have hs15 := hb15.size
      have HRa := Lib.hid hra
      have HNa := Lib.hid hna
      have HT15 := Lib.hid (HT14.out.bel hb15)
      have W15 := Lib.hid (W14.out.trans (hb15.mono (by omega)))
      clear hra hna hb15
      go_wp2_with fail
      refine (changed_all HT15.out (by omega) (by omega)).mono ?_
      rintro e w16 ⟨vb, rfl, hrb, hnb, hb16⟩
      have HRb := Lib.hid hrb
      have HNb := Lib.hid hnb
      have HRa2 := Lib.hid (row_bel HRa.out hb16)
      have W16 := Lib.hid (W15.out.trans (hb16.mono (by omega)))
      clear hrb hnb hb16
      go_wp2_with fail
      refine (equal_rows HRa2.out HNa.out HRb.out HNb.out (by have := chg_len (cur1.zip xs); rw [List.length_zip] at this; omega)).mono ?_
      rintro e w17 ⟨rfl, hb17⟩
      have W17 := Lib.hid (W16.out.trans (hb17.mono W16.out.size))
      clear hb17
      go_wp2_with fail
      go_ret
      exact ⟨rfl, W17.out⟩
end Go.Proofs.YtaognphegancbaaGreatDoor
