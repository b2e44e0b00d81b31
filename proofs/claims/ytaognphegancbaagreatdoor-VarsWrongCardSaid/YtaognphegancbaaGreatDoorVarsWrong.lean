/- For every input of Made and every number, every name and every bits: VarsWrong returns true and leaves its arguments as they were. -/
import Derived.Test.YtaognphegancbaaGreatDoorWN
import Derived.Test.YtaognphegancbaaGreatDoorRows
import Derived.Test.YtaognphegancbaaGreatDoorCards
import Derived.Test.YtaognphegancbaaGreatDoorTie
import Derived.WalkKit
import Derived.ProofKit
import Derived.OpenShut
import Derived.ChangeSame
import Derived.ChangeVars
import Derived.ChangeOld
import Derived.JoinedOf
import Derived.RowKit
import Derived.LaidLaws
import Derived.LaidHandle
import Derived.Lay
import Derived.MakeChecks
import Derived.SevenTiedAt
import Derived.Carry
import Derived.Deep.Slices
import Derived.Deep.Fields
import Derived.Deep.Strs
import Derived.Lib.SmallJoins
namespace Go.Proofs.YtaognphegancbaaGreatDoor.varsWrong
open Go.ChangeShapes Go.WideShapes Go.ChangeAt Go.RowKit Go.Deep Go.Joins
set_option linter.unusedVariables false
set_option linter.unusedSimpArgs false
theorem own : ownKnob Tryz.prog.godebug = none := by kernel_rfl
theorem laidOut : laidOutB Tryz.prog = true := by kernel_rfl
theorem wf_u8 {n : Int} (h : (Lit.int .u8 n).wf = true) : 0 ≤ n ∧ n < 256 := by
  simp [Lit.wf] at h
  have a : IntKind.u8.min = 0 := by decide +kernel
  have b : IntKind.u8.max = 255 := by decide +kernel
  omega
theorem wf_u64 {n : Int} (h : (Lit.int .u64 n).wf = true) : 0 ≤ n := by
  simp [Lit.wf] at h
  have a : IntKind.u64.min = 0 := by decide +kernel
  omega
theorem wf_u64' {n : Int} (h : (Lit.int .u64 n).wf = true) : 0 ≤ n ∧ n < 18446744073709551616 := by
  simp [Lit.wf] at h
  have a : IntKind.u64.min = 0 := by decide +kernel
  have b : IntKind.u64.max = 18446744073709551615 := by decide +kernel
  omega
theorem three : ∀ l : List Value, l.length = 3 → ∃ a b c, l = [a, b, c]
  | [], h => by simp at h
  | [_], h => by simp at h
  | [_, _], h => by simp at h
  | [a, b, c], _ => ⟨a, b, c, rfl⟩
  | _ :: _ :: _ :: _ :: _, h => by simp at h
section
variable {H : Type} {enc : TypeId × Value → H} {w : World} {base : Nat} {spare : Nat → Bool} {held : Bool}
/-- A row of bytes, read. -/
theorem bytes_of {fuel : Nat} {v : Value} {x : DataW H × List MemPlace} (hs : ∀ b, spare b = true) (h : DataW.trod enc Tryz.prog w base spare held fuel 22 [v] = some x) : ∃ A n c, v = .slice A n c ∧ SmallB w A n ∧ n ≤ maxLen := by
  rcases open_ints Tryz.underlying22 Tryz.underlying5 (by kernel_rfl) h with ⟨hcs, _⟩ | ⟨a, l, c, zs, hcs, _, hl, hm, hz, _, hcell, hwz⟩
  · obtain rfl : v = .slice none 0 0 := by simpa using hcs
    exact ⟨none, 0, 0, rfl, fun h => absurd h (Nat.lt_irrefl 0), Nat.zero_le _⟩
  · obtain rfl : v = .slice (some a) l c := by simpa using hcs
    rw [hs, if_pos rfl] at hz
    refine ⟨some a, l, c, rfl, fun _ => ⟨a, rfl, fun j hj => ?_⟩, Nat.le_trans hl hm⟩
    have hj2 : j < zs.length := by omega
    have hr := wf_u8 (hwz zs[j] (List.getElem_mem hj2))
    have e1 : zs.getD j 0 = zs[j] := by simp [List.getD_eq_getElem?_getD, List.getElem?_eq_getElem hj2]
    refine ⟨zs[j].toNat, by omega, ?_⟩
    rw [hcell j hj2, e1, Int.toNat_of_nonneg hr.1]
set_option maxRecDepth 100000 in
/-- An input of Made, read. -/
theorem small_of {W : World} {v : Value} {d : DataW H} {p : List MemPlace} {r : Reach} {b0 : Nat} (hv : Value.okWide Tryz.prog W r b0 25 v) (hs : ∀ b, spare b = true) (h : DataW.Trod enc Tryz.prog W base spare held 25 v d p) :
    ∃ (kx : Int) (A : Option Addr) (n c : Nat) (A2 : Option Addr) (n2 c2 : Nat), v = .agg #[.int .u8 kx, .slice A n c, .slice A2 n2 c2] ∧ SmallB W A n ∧ n ≤ maxLen := by
  obtain ⟨v0, v1, v2, y0, y1, y2, n, rfl, _, _, g0, g1, g2⟩ := open_agg3 Tryz.underlying25 (by kernel_rfl) (by kernel_rfl) hv h
  obtain ⟨n0, e0, _, _⟩ := DataW.trod_int Tryz.underlying5 g0
  obtain ⟨A, l, c, rfl, hA, hl⟩ := bytes_of hs g1
  cases e0
  rcases open_slice Tryz.underlying23 g2 with ⟨hcs, _⟩ | ⟨a, l2, c2, m, n, D, Pl, hcs, _⟩
  · obtain rfl : v2 = .slice none 0 0 := by simpa using hcs
    exact ⟨n0, A, l, c, none, 0, 0, rfl, hA, hl⟩
  · obtain rfl : v2 = .slice (some a) l2 c2 := by simpa using hcs
    exact ⟨n0, A, l, c, some a, l2, c2, rfl, hA, hl⟩
end
set_option maxRecDepth 100000 in
theorem lifted (os : Os) (started : os.Started) (H : Type) (enc : TypeId × Value → H) :
    ReturnsInHanded {} Tryz.checked os 5 .any (fun w args => (Rows.varsWrongSpec.pre enc Tryz.prog Tryz.f5 Rows.varsWrongRow.domain false w args ∧ laidMetH Tryz.prog Rows.varsWrongRow.laid w) ∧ sizedMet enc Tryz.prog Tryz.f5 (OpenSpec.ofChange Rows.varsWrongSpec) false w args)
      (Rows.varsWrongSpec.post enc Tryz.prog Tryz.f5 false true false false) := by
  refine returnsInHanded_of_change_and (C := Tryz.checked) (X := fun w _ => laidMetH Tryz.prog Rows.varsWrongRow.laid w) (fun _ _ _ hh h => h.of_heap hh) own started (by kernel_rfl) Tryz.func5
    (ChangeSpec.witness_shaped (enc := enc) (C := Tryz.checked) (os := os) (X := fun w _ => laidMetH Tryz.prog Rows.varsWrongRow.laid w) false (World.laidAll Tryz.prog os Rows.varsWrongRow.laid) #[.agg #[.int .u8 0, .slice none 0 0, .slice none 0 0], .int .u8 0, .string ⟨#[]⟩, .int .u64 0] 8 (World.laidAll_os _ _ _)
      (World.shaped_of_ZipB (by kernel_rfl) (by kernel_rfl)) (by kernel_rfl) (by kernel_rfl) (by kernel_rfl)
      (by rw [MakeChecks.laidMetH_plain _ _ _ (by kernel_rfl)]; exact laidMet_laidAll _ (by kernel_rfl) (by kernel_rfl))) ?_
  intro W base args ds gs before hval0 hW hc _ hL _
  have hval : ∀ (j : Nat) t v, Tryz.f5.params[j]? = some t → args[j]? = some v → Value.okWide Tryz.prog W .any base t v := hval0
  have hW' := hW
  obtain ⟨p, q, hA0, hV, rfl, _, _⟩ := hW
  have hA : DataW.TrodAll enc Tryz.prog W 0 (fun _ => true) true Tryz.f5.params.toList args.toList ds p := hA0
  rw [Tryz.params5] at hA hval
  obtain ⟨v0, vs0, d0, ds0, p0, q0, hargs, rfl, rfl, h0, r0⟩ := trodAll_cons hA
  obtain ⟨v1, vs1, d1, ds1, p1, q1, rfl, rfl, rfl, h1, r1⟩ := trodAll_cons r0
  obtain ⟨v2, vs2, d2, ds2, p2, q2, rfl, rfl, rfl, h2, r2⟩ := trodAll_cons r1
  obtain ⟨v3, vs3, d3, ds3, p3, q3, rfl, rfl, rfl, h3, r3⟩ := trodAll_cons r2
  obtain ⟨rfl, rfl, rfl⟩ := trodAll_nil r3
  obtain rfl : args = #[v0, v1, v2, v3] := by cases args; simp_all
  obtain ⟨rfl, rfl⟩ := trodVars_none hV
  obtain ⟨kx, A, n, c, A2, n2, c2, rfl, hA1, hn⟩ := small_of (hval 0 25 v0 rfl rfl) (fun _ => rfl) h0
  obtain ⟨k0, hk0, rfl⟩ : ∃ k0 : Nat, k0 < 256 ∧ v1 = .int .u8 (k0 : Int) := by
    obtain ⟨n1, e1, _, _, hw1⟩ := open_int Tryz.underlying5 (hval 1 5 v1 rfl rfl) h1
    have r1 := wf_u8 hw1
    exact ⟨n1.toNat, by omega, by rw [Int.toNat_of_nonneg r1.1]; exact e1⟩
  obtain ⟨nm, hnm, rfl⟩ : ∃ nm : ByteArray, nm.size ≤ maxLen ∧ v2 = .string nm := by
    obtain ⟨s2, rfl⟩ := Go.WideShapes.okWide_string Tryz.underlying9 (hval 2 9 v2 rfl rfl)
    obtain ⟨m, hm⟩ := h2
    obtain ⟨s3, e3, _, hsz⟩ := DataW.trod_string Tryz.underlying9 hm
    simp [Value.cells] at e3
    subst e3
    exact ⟨s2, hsz, rfl⟩
  obtain ⟨bits, hbits, rfl⟩ : ∃ bits : Nat, bits < 18446744073709551616 ∧ v3 = .int .u64 (bits : Int) := by
    obtain ⟨n1, e1, _, _, hw1⟩ := open_int Tryz.underlying38 (hval 3 38 v3 rfl rfl) h3
    have r1 := wf_u64' hw1
    exact ⟨n1.toNat, by omega, by rw [Int.toNat_of_nonneg r1.1]; exact e1⟩
  have lt3 : ∀ x ∈ p3, x.block < W.heap.size := by obtain ⟨m, hm⟩ := h3; exact DataW.trod_lt m _ _ _ hm
  have lt2 : ∀ x ∈ p2, x.block < W.heap.size := by obtain ⟨m, hm⟩ := h2; exact DataW.trod_lt m _ _ _ hm
  have lt0 : ∀ x ∈ p0, x.block < W.heap.size := by obtain ⟨m, hm⟩ := h0; exact DataW.trod_lt m _ _ _ hm
  have lt1 : ∀ x ∈ p1, x.block < W.heap.size := by obtain ⟨m, hm⟩ := h1; exact DataW.trod_lt m _ _ _ hm
  simp only [List.append_nil] at hW'
  clear hA0 hval0
  refine (varsWrong_calls kx A n c A2 n2 c2 k0 nm bits W hA1 hn hk0 hnm hbits).mono fun e W' ⟨he, bel⟩ => ?_
  subst he
  exact ⟨_, rfl, _, _, _, [], _, [], hW', trodAll_mk1 (shut_bool Tryz.underlying4 _), (trodAll_cons_mk (Below.trod laidOut (by kernel_rfl) (of_decide_eq_true (by kernel_rfl)) h0 bel lt0) (trodAll_cons_mk (Below.trod laidOut (by kernel_rfl) (of_decide_eq_true (by kernel_rfl)) h1 bel lt1) (trodAll_cons_mk (Below.trod laidOut (by kernel_rfl) (of_decide_eq_true (by kernel_rfl)) h2 bel lt2) (trodAll_cons_mk (Below.trod laidOut (by kernel_rfl) (of_decide_eq_true (by kernel_rfl)) h3 bel lt3) trodAll_mk0)))), rfl, bel.frame _, fun h => by cases h⟩
theorem over : Rows.VarsWrongSaid :=
  OpenClaim.holds_of_wide 5 Tryz.f5 rfl rfl rfl rfl rfl rfl rfl ⟨rfl, rfl, rfl, rfl, rfl⟩ rfl rfl rfl rfl rfl (by kernel_rfl) Tryz.func5 (by kernel_rfl)
    (of_decide_eq_true (by kernel_rfl)) (by unfold Func.isWrapper; first | (rw [if_pos (by decide +kernel)]; kernel_rfl) | (rw [if_neg (by decide +kernel)]; exact ⟨rfl, rfl⟩))
    (fun os started H enc _ => lifted os started H enc)
/-- The tied card. -/
theorem proved : Rows.VarsWrongCardSaid :=
  Claim7.holds_tied_plain_at .later [] [.data, .data, .data, .data, .data, .sentinel, .sentinel, .pinned, .pinned, .pinned] true (true, "718a7bd3dacd6422deff9a89eccddd984a93d3400083d2421745a0180e76e567") true over (fun _ h => by cases h) (by kernel_rfl) (fun _ h => by cases h) varsWrong_row_tie rfl ⟨rfl, rfl⟩ (by kernel_rfl) rfl
    (fun f fn hf hfn => by
      obtain rfl : f = 5 := Option.some.inj ((show Tryz.prog.funcNamed "repartee/reparteelaw28.VarsWrong" = some 5 by kernel_rfl).symm.trans hf) |>.symm
      obtain rfl : fn = Tryz.f5 := (Option.some.inj (Tryz.func5.symm.trans hfn)).symm
      exact ⟨by kernel_rfl, fun j t ht => by
        rw [Tryz.params5] at ht
        have hm : t ∈ [25, 5, 9, 38] := by simpa using Array.mem_of_getElem? ht
        have hall : ([25, 5, 9, 38].all fun u => !Tryz.prog.wantsStandIn u) = true := by kernel_rfl
        exact (show Tryz.prog.wantsStandIn t = false by simpa using List.all_eq_true.1 hall t hm)⟩)
    (by kernel_rfl)
end Go.Proofs.YtaognphegancbaaGreatDoor.varsWrong
