/- vars: VarsLast: the walk. -/
import Derived.Test.YtaognphegancbaaGreatDoorWC
namespace Go.Proofs.YtaognphegancbaaGreatDoor
set_option linter.unusedVariables false
set_option linter.unusedSimpArgs false
open Go.RowKit Go.Maps Go.WideMaps
open Fl (nanB canon qnan sg rg negW)
theorem below_drew' (w : World) : Below w.heap.size w w.drew := (Below.refl _ w).drew
theorem all_six {w : World} {S BM L F cl cf : Nat} {cur fst : List VarD} (h : IsStore w S BM L F cl cf cur fst) (hl : cur.length = 6) :
    Calls Tryz.prog 11 #[.pointer (some ⟨S, 0, none⟩)] w fun e w' => ∃ g' c', e = .returned (.slice (some ⟨g', 0, none⟩) 6 c') ∧ w.heap.size ≤ g' ∧ Blk w' g' c' cur ∧ Below w.heap.size w w' := by
  have := all_store h (by omega) (by omega)
  rw [hl] at this
  exact this
theorem add_plus (a : Addr) (p j : Nat) (hj : 0 < j) : (⟨(a.add p).block, (a.add p).off + j, none⟩ : Addr) = a.add (p + j) := by
  unfold Addr.add
  have h1 : ¬(p + j = 0) := by omega
  by_cases hp : p = 0
  · subst hp; simp [show ¬(j = 0) by omega]
  · simp [hp, Nat.add_assoc]
set_option maxRecDepth 100000 in
set_option maxHeartbeats 4000000 in
theorem varsLast_calls (kx : Int) (A : Option Addr) (n c : Nat) (A2 : Option Addr) (n2 c2 : Nat) (Al : Option Addr) (nl cl0 : Nat) (w : World) (hA : SmallB w A n) (hn : n ≤ maxLen) (hL : ActRow w Al nl) (hnl : nl ≤ cl0) (hcl : cl0 ≤ maxLen) :
    Calls Tryz.prog 3 #[.agg #[.int .u8 kx, .slice A n c, .slice A2 n2 c2], .slice Al nl cl0] w fun e w' => e = .returned (.bool true) ∧ Below w.heap.size w w' := by
  have HA := Lib.hid hA
  have HL := Lib.hid hL
  have hmx : cl0 ≤ 9223372036854775807 := by unfold maxLen at hcl; omega
  have HCl := Lib.hid hcl
  clear hA hL hcl
  go_enter Tryz.func3, Tryz.ntmps3
  go_wp2_with fail
  refine (awake_calls _).mono ?_
  rintro e w1 ⟨rfl, hb1⟩
  have W1 := Lib.hid (((Below.refl w.heap.size w).alloc (Nat.le_refl _) (.cells #[.int .u8 kx, .slice A n c, .slice A2 n2 c2] 25)).trans (hb1.mono (by simp)))
  have x0 : w1.cell? ⟨w.heap.size, 0, none⟩ = some (.int .u8 kx) := cell_bel hb1 (by exact World.cell?_alloc_new _ _ _ _)
  have x1 : w1.cell? ⟨w.heap.size, 1, none⟩ = some (.slice A n c) := cell_bel hb1 (by exact World.cell?_alloc_new _ _ _ _)
  have x2 : w1.cell? ⟨w.heap.size, 2, none⟩ = some (.slice A2 n2 c2) := cell_bel hb1 (by exact World.cell?_alloc_new _ _ _ _)
  have hs1 := W1.out.size
  clear hb1
  go_wp2_with fail
  refine (made_calls kx A n c A2 n2 c2 w1 (HA.out.bel W1.out) hn).mono ?_
  rintro e w2 ⟨S, BM, L, F, cl, cf, g, cp, xs, rfl, hm⟩
  have HM := Lib.hid hm
  have W2 := Lib.hid (W1.out.trans (hm.bel.mono hs1))
  have hlen := hm.made.len
  have hg2 := hm.blk.lt
  have hL2 := hm.st.own.lt
  have hS2 : S < w2.heap.size := (Array.getElem?_eq_some_iff.1 hm.st.box).1
  have hF2 := hm.st.fir.lt
  have hBM2 := hm.st.map.lt
  have HLen := Lib.hid hlen
  clear hm hlen x0 x1 x2
  go_wp2_with fail
  refine (clone_calls g cp 6 xs w2 HM.out.blk (by omega) HLen.out.symm (by omega)).mono ?_
  rintro e w3 ⟨gf, c8, rfl, hgf, hbf, hb3⟩
  have W3 := Lib.hid (W2.out.trans (hb3.mono W2.out.size))
  have HSt := Lib.hid (HM.out.st.bel hb3)
  have HG := Lib.hid (HM.out.blk.bel hb3)
  have HF := Lib.hid hbf
  have hs3 := hb3.size
  clear hb3 hbf
  obtain ⟨m, hm60, hmn, hmin⟩ : ∃ m : Nat, m ≤ 60 ∧ m ≤ nl ∧ min (nl : Int) 60 = (m : Int) := ⟨min nl 60, by omega, by omega, by omega⟩
  have htn : ((m : Int)).toNat = m := by omega
  have hc1 : (m : Int) ≤ (cl0 : Int) := by omega
  have hc0 : (0 : Int) ≤ (m : Int) := by omega
  go_wp2_with fail
  go_loopw [37] (fun vi wr => ∃ k : Nat, k ≤ m ∧ vi = .int .i64 k ∧ LSt wr S BM L F cl cf g cp gf c8 xs ∧ Below w.heap.size w wr ∧ w3.heap.size ≤ wr.heap.size) (fun vi _ => m - (intOf vi).toNat)
  case atStart => exact ⟨0, by omega, rfl, ⟨xs, HM.out.made, HSt.out, HG.out, HF.out⟩, W3.out, Nat.le_refl _⟩
  case round =>
    obtain ⟨k, hk, rfl, ⟨cur, hmk, hst, hg, hgfb⟩, hbr, hsr⟩ := hrel
    have HMk := Lib.hid hmk
    have HS := Lib.hid hst
    have HG := Lib.hid hg
    have HF := Lib.hid hgfb
    have HW := Lib.hid hbr
    have hws := hbr.size
    clear hmk hst hg hgfb hbr
    by_cases hlt : k < m
    · obtain ⟨ad, hAl, hact⟩ := HL.out.bel HW.out (by omega)
      obtain ⟨k0, b, t, ⟨hk0, ht⟩, q0, q1, q2⟩ := hact k (by omega)
      subst hAl
      have hkm : (k : Int) < (m : Int) := by omega
      have hlc := HMk.out.len
      obtain ⟨x, hx⟩ : ∃ x, cur[k0 % 6]? = some x := ⟨_, List.getElem?_eq_getElem (by omega)⟩
      have hi6 : k0 % 6 < 6 := by omega
      have hrem : (k0 : Int).tmod 6 = ((k0 % 6 : Nat) : Int) := by rw [Int.tmod_eq_emod_of_nonneg (by omega)]; omega
      generalize k0 % 6 = i at hx hi6 hrem
      have q1' : wr.cell? ⟨(ad.add (k * 3)).block, (ad.add (k * 3)).off + 1, none⟩ = some (.int .u64 (b : Int)) := by rw [add_plus _ _ _ (by omega)]; exact q1
      have q2' : wr.cell? ⟨(ad.add (k * 3)).block, (ad.add (k * 3)).off + 2, none⟩ = some (.string t) := by rw [add_plus _ _ _ (by omega)]; exact q2
      have HX := Lib.hid hx
      have HLc := Lib.hid hlc
      have HAct := Lib.hid hact
      clear hx hlc hact
      go_wp2_with fail
      have hgl := HG.out.lt
      have hb0 := fun (o : Obj) => (Below.refl wr.heap.size wr).alloc (Nat.le_refl _) o
      obtain ⟨ga0, ga1, ga2, ga3⟩ := HG.out.at4 x HX.out
      refine wp_normal (rL11 g cp i wr.heap.size k0 b t x _ _ _ _ _ _ _ _ _ _ _ _ _ _ _ _ _ _ _ _ _ _ _ _ _ _ _ _ _ _ _ _ _ _ _ _ _ _ _ _ _ _ _ _ _ _ _ _ _ _ _ _ _ _ _ _ _ _ _ _ _ _ _ _ _ _ _ _ _ _ _ _ _ _ _ _ _ _ _ _ _ _ _ _ _ _ _ _ _ _ _ _ _ _ _ _ _ _ _ _ _ _ _ _ _ _ _ _ _ _ _ _ _ _ _ _ _ _ _ _ _ _ _ _ _ _ _ _ _ _ _ _ _ _ _ _ _ _ _ _ _ _ _ _ _ _ _ _ _ _ _ _ _ _ _ ht hi6 (by exact World.cell?_alloc_new _ _ _ _) (by exact World.cell?_alloc_new _ _ _ _) (by exact World.cell?_alloc_new _ _ _ _) (cell_al ga1 _) ?_)
      intro _ _ _ _ _ _ _ _ w4 VB hVB hv hb4
      have B4 := (hb0 _).trans (hb4.mono (by simp))
      have v0 : w4.cell? ⟨VB, 0, none⟩ = some (.bool x.num) := by simpa using cell_of_row w4 VB 0 _ _ _ hv
      have v1 : w4.cell? ⟨VB, 1, none⟩ = some (.string (vT x.num t)) := by simpa using cell_of_row w4 VB 1 _ _ _ hv
      have v2 : w4.cell? ⟨VB, 2, none⟩ = some (.float .f64 (vF x.num b)) := by simpa using cell_of_row w4 VB 2 _ _ _ hv
      have n0 := cell_bel B4 ga0
      have HS4 := Lib.hid (HS.out.bel B4)
      have HG4 := Lib.hid (HG.out.bel B4)
      have HF4 := Lib.hid (HF.out.bel B4)
      have HW4 := Lib.hid (HW.out.trans (B4.mono hws))
      have hVB' : wr.heap.size + 1 ≤ VB := by simpa using hVB
      have hVl : VB < w4.heap.size := (Array.getElem?_eq_some_iff.1 hv).1
      have hi0 : (0 : Int) ≤ (i : Int) := by omega
      have hi1 : (i : Int) < 6 := by omega
      have HR := Lib.hid (vright x.num t b ht)
      clear hb4 hv hb0 B4 ga0 ga1 ga2 ga3 q0 q1 q2 q1' q2' hVB
      go_wp2_with fail
      refine still_tail_d 7 (by kernel_rfl) (by kernel_rfl) ?_
      simp only [List.take_succ_cons, List.take_zero, List.drop_succ_cons, List.drop_zero]
      repeat still_step
      refine wpStill_nil ?_
      have hws3 : w2.heap.size ≤ wr.heap.size := by omega
      have hVL : VB ≠ L := by omega
      have hgL := HM.out.gL
      have hgl4 : g < w4.heap.size := HG4.out.lt
      go_wp2_with (go_at_call 10; (with_reducible refine (set_store (HS4.out.bel (below_drew' w4)) HMk.out.named i x HX.out (vT x.num t) (vF x.num b) HR.out).mono ?_); rintro e w5 ⟨rfl, hst5, hg5⟩; have r0 := (World.cell?_of_block (hg5.block VB hVl (by simpa using hVL))).trans v0; have r1 := (World.cell?_of_block (hg5.block VB hVl (by simpa using hVL))).trans v1; have r2 := (World.cell?_of_block (hg5.block VB hVl (by simpa using hVL))).trans v2; have HGb := Lib.hid (HG4.out.move (hg5.block g hgl4 (by simpa using hgL))); obtain ⟨g0, g1, g2, g3⟩ := HGb.out.at4 x HX.out; have z1 := HGb.out.frozen (i * 4 + 1); have z2 := HGb.out.frozen (i * 4 + 2); have z3 := HGb.out.frozen (i * 4 + 3); have HS5 := Lib.hid hst5; have HG5 := Lib.hid hg5; clear hst5 hg5)
      clear r0 r1 r2 g0 g1 g2 g3 z1 z2 z3 v0 v1 v2 n0
      show Calls Tryz.prog 11 _ (setV w5 g i x.num (vT x.num t) (vF x.num b)) _
      obtain ⟨X1, X2⟩ := setV_own HGb.out x ⟨x.name, x.num, vT x.num t, vF x.num b⟩ HX.out rfl
      have hs2 := X2.size
      have hs5 := HG5.out.size
      have HMk2 := Lib.hid (HMk.out.set i x HX.out (vT x.num t) (vF x.num b) HR.out)
      obtain ⟨hgS, hgB⟩ := ne_store HS5.out HGb.out
      have hgF := HM.out.gF
      have HS6 := Lib.hid (HS5.out.by_ X2 hgS hgB hgL hgF)
      have HF6 := Lib.hid (HF4.out.move ((X2.block gf (by have := HF4.out.lt; simp at hs5; omega) (by simp; omega)).trans (HG5.out.block gf (by simpa using HF4.out.lt) (by simp; omega))))
      have HW6 := Lib.hid (((HW4.out.drew).grown HG5.out (by have := HW4.out.size; simpa using this) (fun j hj => by cases hj; have := HM.out.s3; omega)).grown X2 (by have := HW4.out.size; simp at hs5; omega) (fun j hj => by cases hj; have := HM.out.s5; omega))
      have HG6 := Lib.hid X1
      have hs46 : w4.heap.size ≤ (setV w5 g i x.num (vT x.num t) (vF x.num b)).heap.size := by simp at hs5; exact Nat.le_trans hs5 hs2
      have hs44 := HW4.out.size
      clear X1 X2 HS5 HG5 HGb hs2 hs5
      simp only at HS6 HG6 HMk2 HF6 HW6
      generalize setV w5 g i x.num (vT x.num t) (vF x.num b) = w6 at HS6 HG6 HF6 HW6 hs46 ⊢
      generalize cur.set i ⟨x.name, x.num, vT x.num t, vF x.num b⟩ = cur2 at HS6 HG6 HMk2
      refine (all_six HS6.out HMk2.out.len).mono ?_
      rintro e w8 ⟨gn, cn, rfl, hgn, hbn, hb8⟩
      have HS8 := Lib.hid (HS6.out.bel hb8)
      have HG8 := Lib.hid (HG6.out.bel hb8)
      have HF8 := Lib.hid (HF6.out.bel hb8)
      have HN8 := Lib.hid hbn
      have HW8 := Lib.hid (HW6.out.trans (hb8.mono (by omega)))
      have hs8 := hb8.size
      clear hb8 hbn HS6 HG6 HF6 HW6
      have hl2 := HMk2.out.len
      go_wp2_with fail
      refine wp_in (bL2 S BM L F cl cf g cp gn cn gf c8 cur2 xs w8 _ _ _ _ _ _ _ _ _ _ _ _ _ _ _ _ _ _ _ _ _ _ _ _ _ _ _ _ _ _ _ _ _ _ _ _ _ _ _ _ _ _ _ _ _ _ _ _ _ _ _ _ _ _ _ _ _ _ _ _ _ _ _ _ _ _ _ _ _ _ _ _ _ _ _ _ _ _ _ _ _ _ _ _ _ _ _ _ _ _ _ _ _ _ _ _ _ _ _ _ _ _ _ _ _ _ _ _ _ _ _ _ _ _ _ _ _ _ _ _ _ _ _ _ _ _ _ _ _ _ _ _ _ _ _ _ _ _ _ _ _ _ _ _ _ _ _ _ _ HS8 (Lib.hid HMk2.out.named) (Lib.hid HMk2.out.len) (Lib.hid HM.out.made.len) HG8 HN8 HF8 ?_)
      intro _ _ _ _ _ _ _ _ _ _ _ _ _ _ _ _ _ _ _ _ _ _ _ _ _ _ _ _ _ _ _ _ _ _ _ _ _ _ _ _ _ _ _ _ _ _ _ _ _ _ _ _ _ _ _ _ _ _ _ _ _ _ v w9 hch hb9
      have HCh := Lib.hid hch
      have HS9 := Lib.hid (HS8.out.bel hb9)
      have HG9 := Lib.hid (HG8.out.bel hb9)
      have HF9 := Lib.hid (HF8.out.bel hb9)
      have HW9 := Lib.hid (HW8.out.trans (hb9.mono (by omega)))
      have hs9 := hb9.size
      clear hch hb9 HS8 HG8 HF8 HN8 HW8
      go_wp2_with fail
      refine (changed_all HS9.out (by rw [HM.out.made.len, hl2]) (by omega)).mono ?_
      rintro e w10 ⟨v2, rfl, hrow, hnil, hb10⟩
      have HRow := Lib.hid hrow
      have HNil := Lib.hid hnil
      have HB10 := Lib.hid hb10
      clear hrow hnil hb10
      go_wp2_with fail
      refine (equal_rows HRow.out HNil.out (row_bel HCh.out.1 HB10.out) HCh.out.2 (by have := chg_len (cur2.zip xs); rw [List.length_zip] at this; omega)).mono ?_
      rintro e w11 ⟨rfl, hb11⟩
      have HB11 := Lib.hid (HB10.out.trans (hb11.mono HB10.out.size))
      have hs11 := HB11.out.size
      clear hb11
      go_wp2_with fail
      go_roundw
      case rel => exact ⟨k + 1, by omega, by go_num, ⟨cur2, HMk2.out, HS9.out.bel HB11.out, HG9.out.bel HB11.out, HF9.out.bel HB11.out⟩, HW9.out.trans (HB11.out.mono (by omega)), by omega⟩
      case measure => simp [intOf]; omega
    · obtain rfl : k = m := by omega
      have hlc := HMk.out.len
      go_wp2_with fail
      refine (reset_store HS.out (by rw [HM.out.made.len, hlc]) (by rw [HMk.out.names, HM.out.made.names]) (by omega)).mono ?_
      rintro e w4 ⟨rfl, hst4, hg4⟩
      have HS4 := Lib.hid hst4
      have hgfl := HF.out.lt
      have HF4 := Lib.hid (HF.out.move (hg4.block gf hgfl (by simp; omega)))
      have HW4 := Lib.hid (HW.out.grown hg4 hws (fun j hj => by cases hj; have := HM.out.s3; omega))
      clear hst4 hg4
      go_wp2_with fail
      refine (changed_all HS4.out rfl (by rw [HM.out.made.len]; omega)).mono ?_
      rintro e w5 ⟨v2, rfl, hrow, hnil, hb5⟩
      obtain rfl := hnil.2 (chg_self xs)
      have HS5 := Lib.hid (HS4.out.bel hb5)
      have HF5 := Lib.hid (HF4.out.bel hb5)
      have HW5 := Lib.hid (HW4.out.trans (hb5.mono HW4.out.size))
      clear hrow hnil hb5
      go_wp2_with fail
      refine (all_six HS5.out HM.out.made.len).mono ?_
      rintro e w6 ⟨gn, cn, rfl, hgn, hbn, hb6⟩
      have HF6 := Lib.hid (HF5.out.bel hb6)
      have HN6 := Lib.hid hbn
      have HW6 := Lib.hid (HW5.out.trans (hb6.mono HW5.out.size))
      clear hbn hb6
      go_wp2_with fail
      refine (equalfunc1 gn cn gf c8 6 6 xs xs w6 HN6.out HF6.out HM.out.made.len.symm HM.out.made.len.symm (by omega) (by omega)).mono ?_
      rw [eqAll_self]
      rintro e w7 ⟨rfl, hb7⟩
      have HW7 := Lib.hid (HW6.out.trans (hb7.mono HW6.out.size))
      clear hb7
      go_wp2_with fail
      go_ret
      exact ⟨rfl, HW7.out⟩
end Go.Proofs.YtaognphegancbaaGreatDoor
