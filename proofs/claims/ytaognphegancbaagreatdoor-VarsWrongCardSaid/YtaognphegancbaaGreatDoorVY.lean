/- vars: made. -/
import Derived.Test.YtaognphegancbaaGreatDoorVX
namespace Go.Proofs.YtaognphegancbaaGreatDoor
set_option linter.unusedVariables false
set_option linter.unusedSimpArgs false
open Go.RowKit Go.Maps Go.WideMaps
theorem Mk.len {xs : List VarD} (h : Mk 6 xs) : xs.length = 6 := by
  have := congrArg List.length h.1
  simpa [allN] using this
theorem Mk.at_ {xs : List VarD} (h : Mk 6 xs) (k : Nat) (x : VarD) (hx : xs[k]? = some x) : allN[k]? = some (x.name, x.num) := by
  have h6 : allN.take 6 = allN := rfl
  rw [← h6, ← h.1, List.getElem?_map, hx]; rfl
theorem Mk.names {xs : List VarD} (h : Mk 6 xs) : xs.map (·.name) = allN.map (·.1) := by
  have h6 : allN.take 6 = allN := rfl
  rw [← h6, ← h.1, List.map_map]; rfl
theorem hasName_map (l : List VarD) (s : ByteArray) : hasName l s = (l.map (·.name)).any (fun m => m.toList == s.toList) := by
  unfold hasName
  rw [List.any_map]
  rfl
theorem Mk.named {xs : List VarD} (h : Mk 6 xs) : Named xs := by
  refine ⟨by rw [h.names]; decide, fun x hx => ?_, by rw [h.len]; omega⟩
  have : x.name ∈ xs.map (·.name) := List.mem_map_of_mem hx
  rw [h.names] at this
  exact (by decide : ∀ s ∈ allN.map (·.1), s.size ≤ 1000) _ this
theorem good_all (k : Nat) (s : ByteArray) (b : Bool) (h : allN[k]? = some (s, b)) : GoodName s := by
  match k, h with
  | 0, h => cases h; exact good_x
  | 1, h => cases h; exact good_y
  | 2, h => cases h; exact good_z
  | 3, h => cases h; exact good_p
  | 4, h => cases h; exact good_s
  | 5, h => cases h; exact good_t
  | k + 6, h => simp [allN] at h
theorem Mk.ok {xs : List VarD} (h : Mk 6 xs) : ∀ k x, xs[k]? = some x → OkAt xs k x := fun k x hx => by
  refine ⟨good_all k _ _ (h.at_ k x hx), ?_, h.2 x (List.mem_of_getElem? hx)⟩
  rw [hasName_map, List.map_take, h.names]
  have h1 := h.at_ k x hx
  generalize x.name = s at h1
  generalize x.num = b at h1
  match k, h1 with
  | 0, h1 => rfl
  | 1, h1 => cases h1; decide +kernel
  | 2, h1 => cases h1; decide +kernel
  | 3, h1 => cases h1; decide +kernel
  | 4, h1 => cases h1; decide +kernel
  | 5, h1 => cases h1; decide +kernel
  | k + 6, h1 => simp [allN] at h1
/-- What made gives. -/
structure IsMade (w w' : World) (S BM L F cl cf g cp : Nat) (xs : List VarD) : Prop where
  made : Mk 6 xs
  st : IsStore w' S BM L F cl cf xs xs
  blk : Blk w' g cp xs
  gL : g ≠ L
  gF : g ≠ F
  s1 : w.heap.size ≤ S
  s2 : w.heap.size ≤ BM
  s3 : w.heap.size ≤ L
  s4 : w.heap.size ≤ F
  s5 : w.heap.size ≤ g
  bel : Below w.heap.size w w'
def MadeP (w : World) (e : Ending) (w' : World) : Prop := ∃ S BM L F cl cf g cp xs, e = .returned (.tuple #[.pointer (some ⟨S, 0, none⟩), .slice (some ⟨g, 0, none⟩) 6 cp, .bool true]) ∧ IsMade w w' S BM L F cl cf g cp xs
theorem run_vars (i0 : Int) (x y : Option Addr) (n c m d : Nat) (w : World) : (Instr.field 81 (.agg #[.int .i64 i0, .slice x n c, .slice y m d]) 1).run Tryz.prog w = .ok (.slice x n c) w := by
  simp [Instr.field, run_underlying Tryz.underlying81, part, asAgg, go_sem]
set_option maxRecDepth 100000 in
theorem made_calls (k : Int) (A : Option Addr) (n c : Nat) (A2 : Option Addr) (n2 c2 : Nat) (w : World) (hA : SmallB w A n) (hn : n ≤ maxLen) :
    Calls Tryz.prog 7 #[.agg #[.int .u8 k, .slice A n c, .slice A2 n2 c2]] w (MadeP w) := by
  have HA := Lib.hid hA
  clear hA
  have hf := fun x y n c m d w => run_vars 2 x y n c m d w
  go_enter Tryz.func7, Tryz.ntmps7
  go_wp2_with fail
  refine (made25_calls A n c _ (HA.out.bel ((Below.refl w.heap.size w).alloc (Nat.le_refl _) _)) hn).mono ?_
  rintro e w1 ⟨g, cp, sb, xs, rfl, hmk, hb, hg, hw⟩
  have HMk := Lib.hid hmk
  have HB := Lib.hid hb
  have HW := Lib.hid (((Below.refl w.heap.size w).alloc (Nat.le_refl _) (.cells #[.int .u8 k, .slice A n c, .slice A2 n2 c2] 25)).trans (hw.mono (by simp)))
  have hg' : w.heap.size ≤ g := by simp at hg; omega
  have hs1 := HW.out.size
  clear hmk hb hg hw
  go_wp2_with fail
  refine (new_ok g cp 6 xs _ HB.out HMk.out.len.symm (by omega) (by omega) HMk.out.ok (fun x hx => HMk.out.named.le hx)).mono ?_
  rintro e w2 ⟨S, BM, L, F, cl, cf, rfl, h1, h2, h3, h4, hst, hb2⟩
  have HSt := Lib.hid hst
  have HB2 := Lib.hid hb2
  have hgl := HB.out.lt
  clear hst hb2
  go_wp2_with fail
  refine bodyPost_ret (v := .tuple #[.pointer (some ⟨S, 0, none⟩), .slice (some ⟨g, 0, none⟩) 6 cp, .bool true]) (by simp [results, Tryz.results7, go_sem]) rfl ?_
  exact ⟨S, BM, L, F, cl, cf, g, cp, xs, rfl, HMk.out, HSt.out, HB.out.bel HB2.out, by omega, by omega, by omega, by omega, by omega, by omega, hg', HW.out.trans (HB2.out.mono hs1)⟩
end Go.Proofs.YtaognphegancbaaGreatDoor
