/- vars: VarsCopies' closure. -/
import Derived.Test.YtaognphegancbaaGreatDoorWH
namespace Go.Proofs.YtaognphegancbaaGreatDoor
set_option linter.unusedVariables false
set_option linter.unusedSimpArgs false
open Go.RowKit Go.Maps Go.WideMaps
/-- What holds at each round's head. -/
def DSt (wr : World) (S BM L F cl cf : Nat) (xs : List VarD) : Prop := ∃ cur, Mk 6 cur ∧ IsStore wr S BM L F cl cf cur xs
/-- What the closure leaves. -/
def DoR (w : World) (S BM L F cl cf : Nat) (xs : List VarD) (e : Ending) (w' : World) : Prop := e = .returned (.bool true) ∧ DSt w' S BM L F cl cf xs ∧ w.grownBy w' (some L)
theorem Mk.same_at {xs ys : List VarD} (h : Mk 6 xs) (h2 : Mk 6 ys) {i : Nat} {x y : VarD} (hx : xs[i]? = some x) (hy : ys[i]? = some y) : y.name = x.name ∧ y.num = x.num := by
  have e := (h.at_ i x hx).symm.trans (h2.at_ i y hy)
  have := Option.some.inj e
  exact ⟨(congrArg Prod.fst this).symm, (congrArg Prod.snd this).symm⟩
set_option maxRecDepth 100000 in
set_option maxHeartbeats 4000000 in
theorem do_calls (S BM L F cl cf g cp AB : Nat) (cur xs ys : List VarD) (Al : Option Addr) (nl cl0 : Nat) (w : World) (hst : IsStore w S BM L F cl cf cur xs) (hmk : Mk 6 cur) (hys : Mk 6 ys) (hg : Blk w g cp ys) (hgL : g ≠ L)
    (hAB : w.heap[AB]? = some (.cells #[.slice (some ⟨g, 0, none⟩) 6 cp] 29 (0, 0))) (hABL : AB ≠ L) (hL : ∀ W, w.grownBy W (some L) → ActRow W Al nl) (hnl : nl ≤ cl0) (hcl : cl0 ≤ maxLen) :
    Calls Tryz.prog 21 #[.pointer (some ⟨S, 0, none⟩), .slice Al nl cl0, .pointer (some ⟨AB, 0, none⟩)] w (DoR w S BM L F cl cf xs) := by
  have HST := Lib.hid hst
  have HMk := Lib.hid hmk
  have HYs := Lib.hid hys
  have HG := Lib.hid hg
  have HAB := Lib.hid hAB
  have HL := Lib.hid hL
  have hmx : cl0 ≤ 9223372036854775807 := by unfold maxLen at hcl; omega
  have hgl := hg.lt
  have hABl : AB < w.heap.size := (Array.getElem?_eq_some_iff.1 hAB).1
  have hLl := hst.own.lt
  clear hst hmk hys hg hAB hL hcl
  obtain ⟨m, hm60, hmn, hmin⟩ : ∃ m : Nat, m ≤ 30 ∧ m ≤ nl ∧ min (nl : Int) 30 = (m : Int) := ⟨min nl 30, by omega, by omega, by omega⟩
  have htn : ((m : Int)).toNat = m := by omega
  have hc1 : (m : Int) ≤ (cl0 : Int) := by omega
  have hc0 : (0 : Int) ≤ (m : Int) := by omega
  go_enter Tryz.func21, Tryz.ntmps21
  go_wp2_with fail
  go_loopw [15] (fun vi wr => ∃ k : Nat, k ≤ m ∧ vi = .int .i64 k ∧ DSt wr S BM L F cl cf xs ∧ w.grownBy wr (some L)) (fun vi _ => m - (intOf vi).toNat)
  case atStart => exact ⟨0, by omega, rfl, ⟨cur, HMk.out, HST.out⟩, by_of_below (Below.refl _ _) _⟩
  case round =>
    obtain ⟨k, hk, rfl, ⟨cur2, hmk2, hst2⟩, hgr⟩ := hrel
    have HMk2 := Lib.hid hmk2
    have HS2 := Lib.hid hst2
    have HGr := Lib.hid hgr
    have hws := hgr.size
    clear hmk2 hst2 hgr
    by_cases hlt : k < m
    · obtain ⟨ad, hAl, hact⟩ := HL.out wr HGr.out (by omega)
      obtain ⟨k0, b, t, ⟨hk0, ht⟩, q0, q1, q2⟩ := hact k (by omega)
      subst hAl
      have hkm : (k : Int) < (m : Int) := by omega
      have hlc := HMk2.out.len
      have hly := HYs.out.len
      obtain ⟨y, hy⟩ : ∃ y, cur2[k0 % 6]? = some y := ⟨_, List.getElem?_eq_getElem (by omega)⟩
      obtain ⟨x, hx⟩ : ∃ x, ys[k0 % 6]? = some x := ⟨_, List.getElem?_eq_getElem (by omega)⟩
      have hi6 : k0 % 6 < 6 := by omega
      have hrem : (k0 : Int).tmod 6 = ((k0 % 6 : Nat) : Int) := by rw [Int.tmod_eq_emod_of_nonneg (by omega)]; omega
      generalize k0 % 6 = i at hx hy hi6 hrem
      have q1' : wr.cell? ⟨(ad.add (k * 3)).block, (ad.add (k * 3)).off + 1, none⟩ = some (.int .u64 (b : Int)) := by rw [add_plus _ _ _ (by omega)]; exact q1
      have q2' : wr.cell? ⟨(ad.add (k * 3)).block, (ad.add (k * 3)).off + 2, none⟩ = some (.string t) := by rw [add_plus _ _ _ (by omega)]; exact q2
      have HY := Lib.hid hy
      have HSame := Lib.hid (HYs.out.same_at HMk2.out hx hy)
      have HG2 := Lib.hid (HG.out.move (HGr.out.block g hgl (by simpa using hgL)))
      have HA2 := Lib.hid ((HGr.out.block AB hABl (by simpa using hABL)).trans HAB.out)
      have cA : wr.cell? ⟨AB, 0, none⟩ = some (.slice (some ⟨g, 0, none⟩) 6 cp) := by simpa using cell_of_row wr AB 0 _ _ _ HA2.out
      obtain ⟨ga0, ga1, ga2, ga3⟩ := HG2.out.at4 x hx
      have lg : g < wr.heap.size := by omega
      have lA : AB < wr.heap.size := by omega
      clear hx hy hlc hly hact
      go_wp2_with fail
      refine wp_normal (rD5 S BM L F cl cf g cp i wr.heap.size AB k0 b t x y cur2 xs _ _ _ _ _ _ _ _ _ _ _ _ _ _ _ _ _ _ _ _ _ _ _ _ _ _ _ _ _ _ _ _ _ _ _ _ _ _ _ _ ht hi6 (by exact World.cell?_alloc_new _ _ _ _) (by exact World.cell?_alloc_new _ _ _ _) (by exact World.cell?_alloc_new _ _ _ _) (cell_al cA _) (cell_al ga0 _) (cell_al ga1 _) (Lib.hid (HS2.out.bel ((Below.refl _ wr).alloc (Nat.le_refl _) _))) HMk2 HY HSame ?_)
      intro _ _ _ _ _ _ _ _ _ _ _ _ _ _ _ w5 hst5 hg5
      have HS5 := Lib.hid hst5
      have HG5 := Lib.hid (HGr.out.trans ((by_of_below ((Below.refl _ wr).alloc (Nat.le_refl _) _) _).trans hg5))
      have HMk5 := Lib.hid (HMk2.out.set i y HY.out (vT y.num t) (vF y.num b) (vright y.num t b ht))
      clear hst5 hg5
      go_wp2_with fail
      go_roundw
      case rel => exact ⟨k + 1, by omega, by go_num, ⟨_, HMk5.out, HS5.out⟩, HG5.out⟩
      case measure => simp [intOf]; omega
    · obtain rfl : k = m := by omega
      go_wp2_with fail
      go_ret
      exact ⟨rfl, ⟨cur2, HMk2.out, HS2.out⟩, HGr.out⟩
end Go.Proofs.YtaognphegancbaaGreatDoor
