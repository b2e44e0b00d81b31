/- Region 19 of ArithSums: the round of the third loop. -/
import Derived.Test.YtompdlhhfpjebaaSumsQ
import Derived.BigCall
import Derived.BigGuardPart
namespace Go.Proofs.Ytompdlhhfpjebaa
set_option linter.unusedVariables false
open Go.RowKit
open Fl (nanB canon qnan sg rg negW)
noncomputable def reg19 : Code := ((Try.f6.body.bind (findRegion 19)).getD .skip)
set_option maxRecDepth 100000 in
set_option maxHeartbeats 8000000 in
theorem r19 (Ap Aq : Option Addr) (np nq cp cq s x k : Nat) (P Q1 : List Nat) (w : World) (v0 v1 v2 v3 v4 v7 v8 v9 v10 v14 v15 v16 v17 v18 v19 v20 v21 v22 v23 v24 v25 v26 v27 v28 v29 v30 v31 v32 v33 v34 v35 v36 v37 v38 v39 v40 v41 v42 v43 v44 v45 v46 v47 v48 v49 v50 v51 v52 v53 v54 v55 v56 v57 v58 v59 v60 v61 v62 v63 v64 v65 v66 v67 v68 v69 v70 v71 v72 v73 v74 v75 v76 v77 v78 v79 v80 v81 v82 v83 v84 v85 v86 v87 v88 v89 v90 v91 v92 v93 v94 v95 v96 v97 v98 v99 v100 v101 v102 v103 v104 v105 v106 v107 v108 v109 v110 v111 v112 v113 v114 v115 v116 v117 v118 v119 v120 v121 v122 v123 v124 v125 v126 v127 v128 v129 v130 v131 v132 v133 v134 v135 v136 v137 v138 v139 v140 v141 v142 v143 v144 v145 v146 v147 v148 v149 v150 v151 v152 v153 v154 v155 v156 v157 v158 v159 v160 v161 v162 v163 v164 v165 v166 v167 v168 v169 : Value) (K0 : Act → World → Prop)
    (hP : Hid (RF w Ap np P)) (hQ1 : Hid (RF w Aq (k + 1) Q1)) (hAp : Hid (Ap = none → cp = 0)) (hAq : Hid (Aq = none → cq = 0)) (hk : k + 1 ≤ nq) (hq : nq ≤ cq) (hc : k + 1 ≤ cq) (hk2 : k + 1 ≤ 12) (hPl : P.length ≤ 12) (hnp : np ≤ 12)
    (HE1 : Hid ((canon (sumF (P ++ Q1)) == canon s) = true)) (HE2 : Hid ((canon (sumF [x]) == canon x) = true))
    (hQ : ∀ (u68 u69 u70 u71 u72 u73 u74 u75 u76 u77 u78 u79 u80 u81 u82 u83 u84 u85 u86 : Value) (w' : World), KB w.heap.size w w' → K0 ⟨#[v0, v1, v2, v3, v4, .slice Ap np cp, .slice Aq nq cq, v7, v8, v9, v10, .float .f64 s, .int .i64 k, .float .f64 x, v14, v15, v16, v17, v18, v19, v20, v21, v22, v23, v24, v25, v26, v27, v28, v29, v30, v31, v32, v33, v34, v35, v36, v37, v38, v39, v40, v41, v42, v43, v44, v45, v46, v47, v48, v49, v50, v51, v52, v53, v54, v55, v56, v57, v58, v59, v60, v61, v62, v63, v64, v65, v66, v67, u68, u69, u70, u71, u72, u73, u74, u75, u76, u77, u78, u79, u80, u81, u82, u83, u84, u85, u86, .bool false, v88, v89, v90, v91, v92, v93, v94, v95, v96, v97, v98, v99, v100, v101, v102, v103, v104, v105, v106, v107, v108, v109, v110, v111, v112, v113, v114, v115, v116, v117, v118, v119, v120, v121, v122, v123, v124, v125, v126, v127, v128, v129, v130, v131, v132, v133, v134, v135, v136, v137, v138, v139, v140, v141, v142, v143, v144, v145, v146, v147, v148, v149, v150, v151, v152, v153, v154, v155, v156, v157, v158, v159, v160, v161, v162, v163, v164, v165, v166, v167, v168, v169], []⟩ w') :
    reg19.wp Try.prog (Exit.then K0 fun _ _ _ => False) ⟨#[v0, v1, v2, v3, v4, .slice Ap np cp, .slice Aq nq cq, v7, v8, v9, v10, .float .f64 s, .int .i64 k, .float .f64 x, v14, v15, v16, v17, v18, v19, v20, v21, v22, v23, v24, v25, v26, v27, v28, v29, v30, v31, v32, v33, v34, v35, v36, v37, v38, v39, v40, v41, v42, v43, v44, v45, v46, v47, v48, v49, v50, v51, v52, v53, v54, v55, v56, v57, v58, v59, v60, v61, v62, v63, v64, v65, v66, v67, v68, v69, v70, v71, v72, v73, v74, v75, v76, v77, v78, v79, v80, v81, v82, v83, v84, v85, v86, v87, v88, v89, v90, v91, v92, v93, v94, v95, v96, v97, v98, v99, v100, v101, v102, v103, v104, v105, v106, v107, v108, v109, v110, v111, v112, v113, v114, v115, v116, v117, v118, v119, v120, v121, v122, v123, v124, v125, v126, v127, v128, v129, v130, v131, v132, v133, v134, v135, v136, v137, v138, v139, v140, v141, v142, v143, v144, v145, v146, v147, v148, v149, v150, v151, v152, v153, v154, v155, v156, v157, v158, v159, v160, v161, v162, v163, v164, v165, v166, v167, v168, v169], []⟩ w := by
  conv => arg 2; whnf
  have HQ := Lib.hid hQ
  clear hQ
  have hwr : IntKind.i64.wrap ((k : Int) + 1) = (k : Int) + 1 := IntWalk.i64_in _ (by omega)
  have htn : ((k : Int) + 1).toNat = k + 1 := by omega
  have hb1 : (0 : Int) ≤ (k : Int) + 1 := by omega
  have hb2 : (k : Int) + 1 ≤ (cq : Int) := by omega
  go_region_law (first
    | (refine step_app3 (z := w) (xs := []) rfl (.tmp 68) (.tmp 69) rfl rfl (by repeat (first | exact Own3.start _ | refine Own3.drew ?_)) rfl hP.out hAp.out (by simp; omega) ?_; intro A' n2 c' w2 hn2 ho2)
    | (refine step_app3 (z := w) (xs := [] ++ P) rfl (.tmp 70) (.tmp 74) rfl rfl (by repeat (first | exact ho2 | refine Own3.drew ?_)) rfl hQ1.out hAq.out (by simp; omega) ?_; intro A2 n3 c2 w3 hn3 ho3; clear ho2 hn2)
    | (go_simp; go_at_call 18; (with_reducible refine (sum_calls A2 n3 c2 ([] ++ P ++ Q1) _ ?hr1 ?hn1).mono ?_); (case hr1 => repeat (first | exact ho3.rf | refine RF.drew ?_)); (case hn1 => simp at hn3; omega); rintro e w4 ⟨rfl, hg4⟩)
    | (go_simp; go_at_call 17; (with_reducible refine (same_t _ _ HE1.out _).mono ?_); rintro e w5 ⟨rfl, rfl⟩; clear HE1)
    | (go_simp; go_at_call 18; (with_reducible refine (sum_calls _ 1 1 [x] _ ?hr2 ?hn2).mono ?_); (case hr2 => repeat (first | exact RF.one _ _ _ | refine RF.drew ?_)); (case hn2 => simp); rintro e w6 ⟨rfl, hg6⟩)
    | (go_simp; go_at_call 17; (with_reducible refine (same_t _ _ HE2.out _).mono ?_); rintro e w7 ⟨rfl, rfl⟩))
  go_simp
  exact HQ.out _ _ _ _ _ _ _ _ _ _ _ _ _ _ _ _ _ _ _ _ (((ho3.kb.grown ho3.kb.size hg4).alloc (Nat.le_trans ho3.kb.size hg4.2.2) _).grown (by have := ho3.kb.size; have := hg4.2.2; simp; omega) hg6)
end Go.Proofs.Ytompdlhhfpjebaa
