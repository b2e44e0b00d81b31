/- The walk of ArithSums. -/
import Derived.Test.YtompdlhhfpjebaaSums19
import Derived.Test.YtompdlhhfpjebaaSums26
namespace Go.Proofs.Ytompdlhhfpjebaa
set_option linter.unusedVariables false
open Go.RowKit
open Fl (nanB canon qnan sg rg negW)
theorem wp_normal {P : Program} {c : Code} {Q : Exit → Act → World → Prop} {a : Act} {w : World} (h : c.wp P (Exit.then (fun a' w' => Q .normal a' w') fun _ _ _ => False) a w) : c.wp P Q a w :=
  wp_mono h (by intro e a w h; cases e <;> first | exact h | exact h.elim)
theorem lv_left {xs ys : List Nat} (h : xs = []) : (canon (lv (xs ++ ys)) == canon (lv ys)) = true := by rw [h, List.nil_append]; simp
theorem lv_right {xs ys : List Nat} (h : ys = []) : (canon (lv (xs ++ ys)) == canon (lv xs)) = true := by rw [h, List.append_nil]; simp
set_option maxRecDepth 100000 in
set_option maxHeartbeats 8000000 in
theorem sums_walk (A0 A1 : Option Addr) (n0 c0 n1 c1 : Nat) (xs ys : List Nat) (w : World) (r0 : RU w A0 n0 xs) (r1 : RU w A1 n1 ys) (h0 : n0 ≤ c0) (h1 : n1 ≤ c1) (hc0 : c0 ≤ 9223372036854775807) (hc1 : c1 ≤ 9223372036854775807) :
    Calls Try.prog 6 #[.slice A0 n0 c0, .slice A1 n1 c1] w fun e w' => e = .returned (.bool true) ∧ KB w.heap.size w w' := by
  have R0 := Lib.hid r0
  have R1 := Lib.hid r1
  clear r0 r1
  go_enter Try.func6, Try.ntmps6
  go_wp2_with fail
  refine (awake_calls _).mono ?_; rintro e w1 ⟨rfl, hg⟩
  go_upto_region 4 with (fail)
  go_cut [28, 29, 30] (fun s1 s2 s3 wx => (∃ m, Cutter A0 n0 c0 s1 s2 s3 m) ∧ KB w.heap.size w wx)
  case first =>
    go_wp2_with fail
    all_goals (go_meet; exact ⟨⟨_, by omega, by omega, rfl, by first | rfl | (simp; rfl) | simp, rfl⟩, KB.ofGrown hg (Nat.le_refl _)⟩)
  case rest =>
    obtain ⟨⟨m0, hm1, hm2, rfl, rfl, rfl⟩, hkb⟩ := hcut
    clear hg h0 hc0
    go_wp2_with fail
    go_loopw [5, 30] (fun v i wr => ∃ k : Nat, k ≤ m0 ∧ i = .int .i64 k ∧ OwnF wr w.heap.size v (xs.take k) ∧ KB w.heap.size w wr) (fun _ i _ => m0 - (intOf i).toNat)
    case atStart => exact ⟨0, by omega, rfl, by rw [List.take_zero]; exact OwnF.nil _ _, hkb⟩
    case round =>
      obtain ⟨k, hk, rfl, hown, hkr⟩ := hrel
      by_cases hlt : k < m0
      · obtain ⟨ad, rfl, hc⟩ := R0.out.at_ (k := k) (by omega) hkr
        have HT := Lib.hid (take_snoc xs k (by have := R0.out.1; omega))
        have hlen : (xs.take k).length ≤ k := List.length_take_le _ _
        have HO := Lib.hid hown
        have HK := Lib.hid hkr
        have hsz := hkr.size
        clear hown hkr
        go_wp2_with (at_builtin; refine wpList_app rfl (.tmp 34) (.tmp 37) rfl rfl (HO.out.alloc _) rfl (RF.one _ _ _) (by simp) (by omega) (by simp; omega) ?_; intro v' w2 hown2 hby hat)
        exact ⟨⟨k + 1, by omega, by go_num, by rw [HT.out]; exact hown2, HK.out.app HO.out (Nat.le_refl _) hsz hby⟩, by simp [intOf]; omega⟩
      · obtain rfl : k = m0 := by omega
        have HO := Lib.hid hown
        have HK := Lib.hid hkr
        have hsz := hkr.size
        clear hown hkr hkb hlt hk
        go_upto_region 9 with (fail)
        go_cut [44, 45, 46] (fun s1 s2 s3 wx => (∃ m, Cutter A1 n1 c1 s1 s2 s3 m) ∧ wx = wr)
        case first =>
          go_wp2_with fail
          all_goals (go_meet; exact ⟨⟨_, by omega, by omega, rfl, by first | rfl | (simp; rfl) | simp, rfl⟩, rfl⟩)
        case rest =>
          obtain ⟨⟨m1, hn1, hn2, rfl, rfl, rfl⟩, rfl⟩ := hcut
          clear h1 hc1
          go_wp2_with fail
          go_loopw [6, 46] (fun v i wy => ∃ j : Nat, j ≤ m1 ∧ i = .int .i64 j ∧ OwnF wy wc.heap.size v (ys.take j) ∧ OwnF wy w.heap.size u5 (xs.take k) ∧ KB w.heap.size w wy ∧ wc.heap.size ≤ wy.heap.size) (fun _ i _ => m1 - (intOf i).toNat)
          case atStart => exact ⟨0, by omega, rfl, by rw [List.take_zero]; exact OwnF.nil _ _, HO.out, HK.out, Nat.le_refl _⟩
          case round =>
            obtain ⟨j, hj, rfl, hq, hp, hkr, hsz2⟩ := hrel
            by_cases hlt : j < m1
            · obtain ⟨ad, rfl, hc⟩ := R1.out.at_ (k := j) (by omega) hkr
              have HT := Lib.hid (take_snoc ys j (by have := R1.out.1; omega))
              have hlen : (ys.take j).length ≤ j := List.length_take_le _ _
              have HQ := Lib.hid hq
              have HP := Lib.hid hp
              have HK2 := Lib.hid hkr
              have hsz3 := hkr.size
              have HN := Lib.hid (show ∀ g, u5.ownBlock = some g → u6.ownBlock ≠ some g by
                intro g e1 e2
                obtain ⟨_, _, _, _, _, ha, _⟩ := HO.out.form
                obtain ⟨_, _, _, _, _, hb, _⟩ := hq.form
                have := (ha g e1).2
                have := (hb g e2).1
                omega)
              clear hq hp hkr
              go_wp2_with (at_builtin; refine wpList_app rfl (.tmp 50) (.tmp 53) rfl rfl (HQ.out.alloc _) rfl (RF.one _ _ _) (by simp) (by omega) (by simp; omega) ?_; intro v' w2 hown2 hby hat)
              exact ⟨⟨j + 1, by omega, by go_num, by rw [HT.out]; exact hown2, (HP.out.alloc _).by_ hby HN.out, HK2.out.app HQ.out hsz hsz3 hby, by have := hby.size; simp at this; omega⟩, by simp [intOf]; omega⟩
            · obtain rfl : j = m1 := by omega
              have DP := hp.done (show (xs.take k).length ≤ 12 by have := List.length_take_le k xs; omega)
              have DQ := hq.done (show (ys.take j).length ≤ 12 by have := List.length_take_le j ys; omega)
              have HX1 := Lib.hid (show ∀ x ∈ xs.take k, x < 2 ^ 64 from fun x hx => R0.out.2.1 x (List.mem_of_mem_take hx))
              have HX2 := Lib.hid (show ∀ x ∈ ys.take j, x < 2 ^ 64 from fun x hx => R1.out.2.1 x (List.mem_of_mem_take hx))
              have hszw := hkr.size
              have HK3 := Lib.hid hkr
              clear hp hq hkr HO HK R0 R1 hsz hsz2 hlt hj hm1 hm2 hn1 hn2
              generalize xs.take k = P at DP HX1
              generalize ys.take j = Q at DQ HX2
              obtain ⟨Ap, np, cp, rfl, hrp, hnp, hcp, hap⟩ := DP
              obtain ⟨Aq, nq, cq, rfl, hrq, hnq, hcq, haq⟩ := DQ
              have HRP := Lib.hid hrp
              have HRQ := Lib.hid hrq
              have HAP := Lib.hid hap
              have HAQ := Lib.hid haq
              clear hrp hrq hap haq
              go_wp2_with fail
              refine (sum_calls _ _ _ P _ HRP.out (by omega)).mono ?_; rintro e wa ⟨rfl, hga⟩
              go_wp2_with fail
              have HKA := Lib.hid (KB.ofGrown hga (Nat.le_refl _))
              clear hga
              go_loopw [11, 60] (fun s i wz => ∃ k : Nat, k ≤ nq ∧ i = .int .i64 k ∧ s = .float .f64 (sumF (P ++ Q.take k)) ∧ KB wr.heap.size wr wz) (fun _ i _ => nq - (intOf i).toNat)
              case atStart => exact ⟨0, by omega, rfl, by rw [List.take_zero, List.append_nil], HKA.out⟩
              case round =>
                obtain ⟨k, hk, rfl, rfl, hkz⟩ := hrel
                have RPz := Lib.hid (HRP.out.kb hkz)
                have RQz := Lib.hid (HRQ.out.kb hkz)
                have HKZ := Lib.hid hkz
                have hszz := hkz.size
                clear hkz
                by_cases hlt : k < nq
                · obtain ⟨ad, rfl, hc⟩ := RQz.out.at_ hlt
                  have HQ1 := Lib.hid (RQz.out.take (show k + 1 ≤ nq by omega))
                  have HS := Lib.hid (sum_app P Q k (by have := RQz.out.1; omega))
                  have HXL := Lib.hid (show (Q[k]?.getD 0) < 2 ^ 64 from HX2.out _ (by have := RQz.out.1; simp [List.getElem?_eq_getElem (show k < Q.length by omega)]))
                  have HSL := Lib.hid (sumF_lt (P ++ Q.take k) (by
                    intro x hx
                    rcases List.mem_append.1 hx with h | h
                    · exact HX1.out x h
                    · exact HX2.out x (List.mem_of_mem_take h)))
                  have hwr : IntKind.i64.wrap ((k : Int) + 1) = (k : Int) + 1 := IntWalk.i64_in _ (by omega)
                  have htn : ((k : Int) + 1).toNat = k + 1 := by omega
                  have hb1 : (0 : Int) ≤ (k : Int) + 1 := by omega
                  have hb2 : (k : Int) + 1 ≤ (cq : Int) := by omega
                  go_wp2_with (go_at_call 10; refine (ldo_lit 2 2 rfl (by omega) (by omega) _ _ HSL.out HXL.out _).mono ?_; rintro e wb ⟨rfl, hgb⟩)
                  have RPb := Lib.hid (RPz.out.grown hgb)
                  have RQb := Lib.hid (HQ1.out.grown hgb)
                  have HKb := Lib.hid (HKZ.out.grown hszz hgb)
                  have hPl : P.length ≤ 12 := by have := HRP.out.1; omega
                  have hQl : k + 1 ≤ 12 := by omega
                  have hszb := hgb.2.2
                  have HE1 := Lib.hid (show (canon (sumF (P ++ Q.take (k + 1))) == canon (opF 2 (sumF (P ++ Q.take k)) (Q[k]?.getD 0))) = true by rw [HS.out]; simp)
                  have HE2 := Lib.hid (sum_one HXL.out)
                  clear hgb HQ1 RQz RPz
                  refine wp_normal (r19 Ap (some ad) np nq cp cq _ _ k P (Q.take (k + 1)) _ _ _ _ _ _ _ _ _ _ _ _ _ _ _ _ _ _ _ _ _ _ _ _ _ _ _ _ _ _ _ _ _ _ _ _ _ _ _ _ _ _ _ _ _ _ _ _ _ _ _ _ _ _ _ _ _ _ _ _ _ _ _ _ _ _ _ _ _ _ _ _ _ _ _ _ _ _ _ _ _ _ _ _ _ _ _ _ _ _ _ _ _ _ _ _ _ _ _ _ _ _ _ _ _ _ _ _ _ _ _ _ _ _ _ _ _ _ _ _ _ _ _ _ _ _ _ _ _ _ _ _ _ _ _ _ _ _ _ _ _ _ _ _ _ _ _ _ _ _ _ _ _ _ _ _ _ _ _ _ _ _ _ _ _ _ _ RPb RQb HAP HAQ (by omega) hcq (by omega) hQl hPl hnp HE1 HE2 ?_)
                  intro _ _ _ _ _ _ _ _ _ _ _ _ _ _ _ _ _ _ _ wy hky
                  have HKy := Lib.hid (HKb.out.trans (hky.mono (by have := HKb.out.size; omega)))
                  clear hky
                  go_wp2_with fail
                  exact ⟨⟨k + 1, by omega, by go_num, by rw [HS.out], HKy.out⟩, by simp [intOf]; omega⟩
                · obtain rfl : k = nq := by omega
                  have hPl : P.length ≤ 12 := by have := HRP.out.1; omega
                  have hQl : Q.length ≤ 12 := by have := HRQ.out.1; omega
                  have HX3 := Lib.hid (show ∀ x ∈ [] ++ P ++ Q, x < 2 ^ 64 from fun x hx => by
                    rcases List.mem_append.1 hx with h | h
                    · exact HX1.out x h
                    · exact HX2.out x h)
                  have HX4 := Lib.hid (show ∀ x ∈ [] ++ Q ++ P, x < 2 ^ 64 from fun x hx => by
                    rcases List.mem_append.1 hx with h | h
                    · exact HX2.out x h
                    · exact HX1.out x h)
                  clear hk hlt HRP HRQ HKA
                  go_wp2_with fail
                  refine (leastA_calls _ _ _ P _ RPz.out (by omega) HX1.out).mono ?_; rintro e wa ⟨rfl, hga⟩
                  have HKa := Lib.hid (HKZ.out.grown hszz hga)
                  have RPa := Lib.hid (RPz.out.grown hga)
                  have RQa := Lib.hid (RQz.out.grown hga)
                  have hsza := HKa.out.size
                  clear hga HKZ RPz RQz
                  go_wp2_with fail
                  refine (leastA_calls _ _ _ Q _ RQa.out (by omega) HX2.out).mono ?_; rintro e wb ⟨rfl, hgb⟩
                  have HKb := Lib.hid (HKa.out.grown hsza hgb)
                  have RPb := Lib.hid (RPa.out.grown hgb)
                  have RQb := Lib.hid (RQa.out.grown hgb)
                  have hszb := HKb.out.size
                  clear hgb HKa RPa RQa
                  go_wp2_with (first
                    | (at_builtin; refine wpList_app3 (z := wb) (xs := []) rfl _ _ rfl rfl (Own3.start _) rfl RPb.out HAP.out (by simp; omega) ?_; intro A1' n1' c1' wx2 hn2 ho2)
                    | (at_builtin; refine wpList_app3 (z := wb) (xs := [] ++ P) rfl _ _ rfl rfl ho2 rfl RQb.out HAQ.out (by simp; omega) ?_; intro A2' n2' c2' wx3 hn3 ho3))
                  refine (leastA_calls _ _ _ ([] ++ P ++ Q) _ ho3.rf (by simp at hn3; omega) HX3.out).mono ?_; rintro e wd ⟨rfl, hgd⟩
                  have HKd := Lib.hid (((HKb.out.trans ((ho3.kb).mono hszb)).grown (Nat.le_trans hszb ho3.kb.size) hgd))
                  have RPd := Lib.hid ((RPb.out.kb ho3.kb).grown hgd)
                  have RQd := Lib.hid ((RQb.out.kb ho3.kb).grown hgd)
                  have hszd := HKd.out.size
                  clear hgd HKb RPb RQb ho2 ho3 hn2 hn3
                  go_wp2_with (first
                    | (at_builtin; refine wpList_app3 (z := wd) (xs := []) rfl _ _ rfl rfl (Own3.start _) rfl RQd.out HAQ.out (by simp; omega) ?_; intro A1' n1' c1' wx4 hn4 ho4)
                    | (at_builtin; refine wpList_app3 (z := wd) (xs := [] ++ Q) rfl _ _ rfl rfl ho4 rfl RPd.out HAP.out (by simp; omega) ?_; intro A2' n2' c2' wx5 hn5 ho5))
                  refine (leastA_calls _ _ _ ([] ++ Q ++ P) _ ho5.rf (by simp at hn5; omega) HX4.out).mono ?_; rintro e we ⟨rfl, hge⟩
                  have HKe := Lib.hid (((HKd.out.trans ((ho5.kb).mono hszd)).grown (Nat.le_trans hszd ho5.kb.size) hge))
                  have hp1 := Lib.hid RPd.out.1
                  have hq1 := Lib.hid RQd.out.1
                  have HC := Lib.hid (lv_turn HX1.out HX2.out)
                  have HL1 := Lib.hid (lv_lt HX1.out)
                  have HL2 := Lib.hid (lv_lt HX2.out)
                  clear hge HKd RPd RQd ho4 ho5 hn4 hn5
                  go_upto_region 26 with (fail)
                  have hkw := HK3.out.trans (HKe.out.mono hszw)
                  have HW := Lib.hid hkw
                  have HSz := HW.out.size
                  clear hkw HKe HK3
                  by_cases hp0 : np = 0
                  · have e1 : P = [] := List.eq_nil_of_length_eq_zero (by have := hp1.out; omega)
                    have HF := Lib.hid (lv_left (ys := Q) e1)
                    by_cases hq0 : k = 0
                    · have e2 : Q = [] := List.eq_nil_of_length_eq_zero (by have := hq1.out; omega)
                      rw [le_nil e1, le_nil e2, le_nil (show P ++ Q = [] by rw [e1, e2]; rfl), le_nil (show Q ++ P = [] by rw [e1, e2]; rfl)]
                      clear e1 e2 hp1 hq1
                      subst hp0 hq0
                      refine wp_normal (r26_00 Ap Aq 0 0 cp cq _ _ _ _ _ _ _ _ _ _ _ _ _ _ _ _ _ _ _ _ _ _ _ _ _ _ _ _ _ _ _ _ _ _ _ _ _ _ _ _ _ _ _ _ _ _ _ _ _ _ _ _ _ _ _ _ _ _ _ _ _ _ _ _ _ _ _ _ _ _ _ _ _ _ _ _ _ _ _ _ _ _ _ _ _ _ _ _ _ _ _ _ _ _ _ _ _ _ _ _ _ _ _ _ _ _ _ _ _ _ _ _ _ _ _ _ _ _ _ _ _ _ _ _ _ _ _ _ _ _ _ _ _ _ _ _ _ _ _ _ _ _ _ _ _ _ _ _ _ _ _ _ _ _ _ _ _ _ _ _ _ _ _ _ _ _ (by omega) (by omega) HC ?_)
                      intro _ _ _ _ _ _ _ _ _ _ _ _ _ _ _ _ _ _ _ _ _ _ _ _ _ _ _ _ _ _ _ _ _ _ _ wy hgy
                      have HY := Lib.hid (HW.out.grown HSz hgy)
                      clear hgy HW
                      go_wp2_with (go_at_call 17; (with_reducible refine (same_t _ _ HF.out _).mono ?_); rintro e wf ⟨rfl, rfl⟩)
                      go_ret
                      exact ⟨rfl, HY.out⟩
                    · have e2 : Q ≠ [] := ne_of_len hq1.out hq0
                      rw [le_nil e1, le_pos e2, le_pos (show P ++ Q ≠ [] by rw [e1]; exact e2), le_pos (show Q ++ P ≠ [] by rw [e1, List.append_nil]; exact e2)]
                      clear e1 e2 hp1 hq1
                      subst hp0
                      refine wp_normal (r26_01 Ap Aq 0 k cp cq _ _ _ _ _ _ _ _ _ _ _ _ _ _ _ _ _ _ _ _ _ _ _ _ _ _ _ _ _ _ _ _ _ _ _ _ _ _ _ _ _ _ _ _ _ _ _ _ _ _ _ _ _ _ _ _ _ _ _ _ _ _ _ _ _ _ _ _ _ _ _ _ _ _ _ _ _ _ _ _ _ _ _ _ _ _ _ _ _ _ _ _ _ _ _ _ _ _ _ _ _ _ _ _ _ _ _ _ _ _ _ _ _ _ _ _ _ _ _ _ _ _ _ _ _ _ _ _ _ _ _ _ _ _ _ _ _ _ _ _ _ _ _ _ _ _ _ _ _ _ _ _ _ _ _ _ _ _ _ _ _ _ _ _ _ _ (by omega) (by omega) (by omega) HC ?_)
                      intro _ _ _ _ _ _ _ _ _ _ _ _ _ _ _ _ _ _ _ _ _ _ _ _ _ _ _ _ _ _ _ _ _ _ _ wy hgy
                      have HY := Lib.hid (HW.out.grown HSz hgy)
                      clear hgy HW
                      go_wp2_with (go_at_call 17; (with_reducible refine (same_t _ _ HF.out _).mono ?_); rintro e wf ⟨rfl, rfl⟩)
                      go_ret
                      exact ⟨rfl, HY.out⟩
                  · have e1 : P ≠ [] := ne_of_len hp1.out hp0
                    by_cases hq0 : k = 0
                    · have e2 : Q = [] := List.eq_nil_of_length_eq_zero (by have := hq1.out; omega)
                      have HF := Lib.hid (lv_right (xs := P) e2)
                      rw [le_pos e1, le_nil e2, le_pos (show P ++ Q ≠ [] by rw [e2, List.append_nil]; exact e1), le_pos (show Q ++ P ≠ [] by rw [e2]; exact e1)]
                      clear e1 e2 hp1 hq1
                      subst hq0
                      refine wp_normal (r26_10 Ap Aq np 0 cp cq _ _ _ _ _ _ _ _ _ _ _ _ _ _ _ _ _ _ _ _ _ _ _ _ _ _ _ _ _ _ _ _ _ _ _ _ _ _ _ _ _ _ _ _ _ _ _ _ _ _ _ _ _ _ _ _ _ _ _ _ _ _ _ _ _ _ _ _ _ _ _ _ _ _ _ _ _ _ _ _ _ _ _ _ _ _ _ _ _ _ _ _ _ _ _ _ _ _ _ _ _ _ _ _ _ _ _ _ _ _ _ _ _ _ _ _ _ _ _ _ _ _ _ _ _ _ _ _ _ _ _ _ _ _ _ _ _ _ _ _ _ _ _ _ _ _ _ _ _ _ _ _ _ _ _ _ _ _ _ _ _ _ _ _ _ _ (by omega) (by omega) (by omega) HC ?_)
                      intro _ _ _ _ _ _ _ _ _ _ _ _ _ _ _ _ _ _ _ _ _ _ _ _ _ _ _ _ _ _ _ _ _ _ _ wy hgy
                      have HY := Lib.hid (HW.out.grown HSz hgy)
                      clear hgy HW
                      go_wp2_with (go_at_call 17; (with_reducible refine (same_t _ _ HF.out _).mono ?_); rintro e wf ⟨rfl, rfl⟩)
                      go_ret
                      exact ⟨rfl, HY.out⟩
                    · have e2 : Q ≠ [] := ne_of_len hq1.out hq0
                      have HF := Lib.hid (lv_both HX1.out HX2.out e1 e2)
                      rw [le_pos e1, le_pos e2, le_pos (show P ++ Q ≠ [] by intro h; exact e1 (List.append_eq_nil_iff.1 h).1), le_pos (show Q ++ P ≠ [] by intro h; exact e2 (List.append_eq_nil_iff.1 h).1)]
                      clear e1 e2 hp1 hq1
                      refine wp_normal (r26_11 Ap Aq np k cp cq _ _ _ _ _ _ _ _ _ _ _ _ _ _ _ _ _ _ _ _ _ _ _ _ _ _ _ _ _ _ _ _ _ _ _ _ _ _ _ _ _ _ _ _ _ _ _ _ _ _ _ _ _ _ _ _ _ _ _ _ _ _ _ _ _ _ _ _ _ _ _ _ _ _ _ _ _ _ _ _ _ _ _ _ _ _ _ _ _ _ _ _ _ _ _ _ _ _ _ _ _ _ _ _ _ _ _ _ _ _ _ _ _ _ _ _ _ _ _ _ _ _ _ _ _ _ _ _ _ _ _ _ _ _ _ _ _ _ _ _ _ _ _ _ _ _ _ _ _ _ _ _ _ _ _ _ _ _ _ _ _ _ _ _ _ _ (by omega) (by omega) (by omega) (by omega) (by omega) HC ?_)
                      intro _ _ _ _ _ _ _ _ _ _ _ _ _ _ _ _ _ _ _ _ _ _ _ _ _ _ _ _ _ _ _ _ _ _ _ wy hgy
                      have HY := Lib.hid (HW.out.grown HSz hgy)
                      clear hgy HW
                      go_wp2_with fail
                      refine (ldo_lit 6 6 rfl (by omega) (by omega) _ _ HL1.out HL2.out _).mono ?_; rintro e wz2 ⟨rfl, hgz⟩
                      have HZ := Lib.hid (HY.out.grown (by have := HY.out.size; omega) hgz)
                      clear hgz HY
                      go_wp2_with (go_at_call 17; (with_reducible refine (same_t _ _ HF.out _).mono ?_); rintro e wf ⟨rfl, rfl⟩)
                      go_ret
                      exact ⟨rfl, HZ.out⟩
end Go.Proofs.Ytompdlhhfpjebaa
