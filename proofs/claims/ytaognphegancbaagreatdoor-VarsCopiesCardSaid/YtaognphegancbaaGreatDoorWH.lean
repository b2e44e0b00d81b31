/- vars: VarsCopies' closure: the region that sets. -/
import Derived.Test.YtaognphegancbaaGreatDoorWG
namespace Go.Proofs.YtaognphegancbaaGreatDoor
set_option linter.unusedVariables false
set_option linter.unusedSimpArgs false
open Go.RowKit Go.Maps Go.WideMaps
def RD (S g cp i : Nat) (k0 : Int) (b : Nat) (t : ByteArray) (x : VarD) (k : Nat) (v : Value) (W : World) : Prop :=
  match k with
  | 0 => v = .pointer (some ⟨S, 0, none⟩)
  | 1 => v = .slice (some ⟨g, 0, none⟩) 6 cp
  | 2 => v = .int .i64 i
  | 3 => v = .pointer (some ⟨g, i * 4, none⟩)
  | 4 => v = .pointer (some ⟨g, i * 4, none⟩)
  | 5 => v = .string x.name
  | 6 => v = .agg #[.int .u8 k0, .int .u64 (b : Int), .string t]
  | 7 => v = .slice (some ⟨g, 0, none⟩) 6 cp
  | 8 => v = .int .i64 i
  | 9 => v = .pointer (some ⟨g, i * 4, none⟩)
  | 10 => v = .pointer (some ⟨g, i * 4 + 1, none⟩)
  | 11 => v = .pointer (some ⟨g, i * 4 + 1, none⟩)
  | 12 => v = .bool x.num
  | 13 => v = .agg #[.bool x.num, .string (vT x.num t), .float .f64 (vF x.num b)]
  | _ => False
theorem RD_mono (S g cp i : Nat) (k0 : Int) (b : Nat) (t : ByteArray) (x : VarD) : ∀ k v W W', RD S g cp i k0 b t x k v W → Below W.heap.size W W' → RD S g cp i k0 b t x k v W' := by
  intro k v W W' h hb
  unfold RD at h ⊢
  split at h <;> exact h
noncomputable def regD5 : Code := ((Tryz.f21.body.bind (findRegion 5)).getD .skip)
set_option maxRecDepth 100000 in
set_option maxHeartbeats 4000000 in
theorem rD5 (S BM L F cl cf g cp i Ab AB : Nat) (k0 : Int) (b : Nat) (t : ByteArray) (x y : VarD) (cur xs : List VarD) (w : World) (p1 p3 p4 p5 p6 p9 p10 p11 p12 p13 p14 p15 p16 p17 p18 p19 p20 p21 p22 p23 p24 p25 p26 p27 p28 p29 p30 p31 p32 p33 p34 p35 p36 p37 p38 p39 p40 p41 : Value) (K0 : Act → World → Prop)
    (ht : t.size ≤ 9223372036854775807) (hi : i < 6) (a0 : w.cell? ⟨Ab, 0, none⟩ = some (.int .u8 k0)) (a1 : w.cell? ⟨Ab, 1, none⟩ = some (.int .u64 (b : Int))) (a2 : w.cell? ⟨Ab, 2, none⟩ = some (.string t))
    (hAB : w.cell? ⟨AB, 0, none⟩ = some (.slice (some ⟨g, 0, none⟩) 6 cp)) (hx0 : w.cell? ⟨g, i * 4, none⟩ = some (.string x.name)) (hx1 : w.cell? ⟨g, i * 4 + 1, none⟩ = some (.bool x.num))
    (HST : Hid (IsStore w S BM L F cl cf cur xs)) (HMk : Hid (Mk 6 cur)) (HY : Hid (cur[i]? = some y)) (HN : Hid (y.name = x.name ∧ y.num = x.num))
    (hQ : ∀ (u25 u26 u27 u28 u29 u30 u31 u32 u33 u34 u35 u36 u37 u38 u39 : Value) (w' : World), IsStore w' S BM L F cl cf (cur.set i ⟨y.name, y.num, vT y.num t, vF y.num b⟩) xs → w.grownBy w' (some L) → K0 ⟨#[.pointer (some ⟨S, 0, none⟩), p1, .pointer (some ⟨AB, 0, none⟩), p3, p4, p5, p6, .pointer (some ⟨Ab, 0, none⟩), .int .i64 i, p9, p10, p11, p12, p13, p14, p15, p16, p17, p18, p19, p20, p21, p22, p23, p24, u25, u26, u27, u28, u29, u30, u31, u32, u33, u34, u35, u36, u37, u38, u39, .bool false, p41], []⟩ w') :
    regD5.wp Tryz.prog (Exit.then K0 fun _ _ _ => False) ⟨#[.pointer (some ⟨S, 0, none⟩), p1, .pointer (some ⟨AB, 0, none⟩), p3, p4, p5, p6, .pointer (some ⟨Ab, 0, none⟩), .int .i64 i, p9, p10, p11, p12, p13, p14, p15, p16, p17, p18, p19, p20, p21, p22, p23, p24, p25, p26, p27, p28, p29, p30, p31, p32, p33, p34, p35, p36, p37, p38, p39, p40, p41], []⟩ w := by
  conv => arg 2; whnf
  have HQ := Lib.hid hQ
  clear hQ
  have hi0 : (0 : Int) ≤ (i : Int) := by omega
  have hi6 : (i : Int) < 6 := by omega
  refine region_ssa' 14 (by kernel_rfl) (by kernel_rfl) (fun u => ⟨#[.pointer (some ⟨S, 0, none⟩), p1, .pointer (some ⟨AB, 0, none⟩), p3, p4, p5, p6, .pointer (some ⟨Ab, 0, none⟩), .int .i64 i, p9, p10, p11, p12, p13, p14, p15, p16, p17, p18, p19, p20, p21, p22, p23, p24, u 0, u 1, u 2, u 3, u 4, u 5, u 6, u 7, u 8, u 9, u 10, u 11, u 12, u 13, p39, p40, p41], []⟩) (fun k => (#[p25, p26, p27, p28, p29, p30, p31, p32, p33, p34, p35, p36, p37, p38] : Array Value).getD k undef) rfl ?_ (RD S g cp i k0 b t x) (RD_mono _ _ _ _ _ _ _ _) ?_ ?_
  · intro k hk u v
    match k, hk with
    | 0, _ => rfl
    | 1, _ => rfl
    | 2, _ => rfl
    | 3, _ => rfl
    | 4, _ => rfl
    | 5, _ => rfl
    | 6, _ => rfl
    | 7, _ => rfl
    | 8, _ => rfl
    | 9, _ => rfl
    | 10, _ => rfl
    | 11, _ => rfl
    | 12, _ => rfl
    | 13, _ => rfl
  · intro k o hk ho u W hW hd
    have f0 := cell_bel hW a0
    have f1 := cell_bel hW a1
    have f2 := cell_bel hW a2
    have fA := cell_bel hW hAB
    have fx0 := cell_bel hW hx0
    have fx1 := cell_bel hW hx1
    match k, hk with
    | 0, _ =>
      cases ho
      go_simp
      first | exact ⟨_, rfl, rfl, Below.refl _ _⟩ | exact ⟨rfl, Below.refl _ _⟩
    | 1, _ =>
      cases ho
      go_simp
      first | exact ⟨_, rfl, rfl, Below.refl _ _⟩ | exact ⟨rfl, Below.refl _ _⟩
    | 2, _ =>
      cases ho
      go_simp
      first | exact ⟨_, rfl, rfl, Below.refl _ _⟩ | exact ⟨rfl, Below.refl _ _⟩
    | 3, _ =>
      cases ho
      have d1 : RD S g cp i k0 b t x 1 (u 1) W := hd 1 (by kernel_rfl)
      simp only [RD] at d1
      have d2 : RD S g cp i k0 b t x 2 (u 2) W := hd 2 (by kernel_rfl)
      simp only [RD] at d2
      go_simp
      first | exact ⟨_, rfl, rfl, Below.refl _ _⟩ | exact ⟨rfl, Below.refl _ _⟩
    | 4, _ =>
      cases ho
      have d3 : RD S g cp i k0 b t x 3 (u 3) W := hd 3 (by kernel_rfl)
      simp only [RD] at d3
      go_simp
      first | exact ⟨_, rfl, rfl, Below.refl _ _⟩ | exact ⟨rfl, Below.refl _ _⟩
    | 5, _ =>
      cases ho
      have d4 : RD S g cp i k0 b t x 4 (u 4) W := hd 4 (by kernel_rfl)
      simp only [RD] at d4
      go_simp
      first | exact ⟨_, rfl, rfl, Below.refl _ _⟩ | exact ⟨rfl, Below.refl _ _⟩
    | 6, _ =>
      cases ho
      go_simp
      first | exact ⟨_, rfl, rfl, Below.refl _ _⟩ | exact ⟨rfl, Below.refl _ _⟩
    | 7, _ =>
      cases ho
      go_simp
      first | exact ⟨_, rfl, rfl, Below.refl _ _⟩ | exact ⟨rfl, Below.refl _ _⟩
    | 8, _ =>
      cases ho
      go_simp
      first | exact ⟨_, rfl, rfl, Below.refl _ _⟩ | exact ⟨rfl, Below.refl _ _⟩
    | 9, _ =>
      cases ho
      have d7 : RD S g cp i k0 b t x 7 (u 7) W := hd 7 (by kernel_rfl)
      simp only [RD] at d7
      have d8 : RD S g cp i k0 b t x 8 (u 8) W := hd 8 (by kernel_rfl)
      simp only [RD] at d8
      go_simp
      first | exact ⟨_, rfl, rfl, Below.refl _ _⟩ | exact ⟨rfl, Below.refl _ _⟩
    | 10, _ =>
      cases ho
      have d9 : RD S g cp i k0 b t x 9 (u 9) W := hd 9 (by kernel_rfl)
      simp only [RD] at d9
      go_simp
      first | exact ⟨_, rfl, rfl, Below.refl _ _⟩ | exact ⟨rfl, Below.refl _ _⟩
    | 11, _ =>
      cases ho
      have d10 : RD S g cp i k0 b t x 10 (u 10) W := hd 10 (by kernel_rfl)
      simp only [RD] at d10
      go_simp
      first | exact ⟨_, rfl, rfl, Below.refl _ _⟩ | exact ⟨rfl, Below.refl _ _⟩
    | 12, _ =>
      cases ho
      have d11 : RD S g cp i k0 b t x 11 (u 11) W := hd 11 (by kernel_rfl)
      simp only [RD] at d11
      go_simp
      first | exact ⟨_, rfl, rfl, Below.refl _ _⟩ | exact ⟨rfl, Below.refl _ _⟩
    | 13, _ =>
      cases ho
      have d6 : RD S g cp i k0 b t x 6 (u 6) W := hd 6 (by kernel_rfl)
      simp only [RD] at d6
      have d12 : RD S g cp i k0 b t x 12 (u 12) W := hd 12 (by kernel_rfl)
      simp only [RD] at d12
      go_simp
      refine (value_calls k0 b t x.num W ht).mono ?_
      rintro e w1 ⟨rfl, hb1⟩
      first | exact ⟨_, rfl, rfl, hb1⟩ | exact ⟨rfl, hb1⟩
  · intro u W hW hd
    have d0 : RD S g cp i k0 b t x 0 (u 0) W := hd 0 (by decide)
    have d5 : RD S g cp i k0 b t x 5 (u 5) W := hd 5 (by decide)
    have d13 : RD S g cp i k0 b t x 13 (u 13) W := hd 13 (by decide)
    simp only [RD] at d0 d5 d13
    rw [← HN.out.1] at d5
    rw [← HN.out.2] at d13
    have HR := Lib.hid (vright y.num t b ht)
    have HW := Lib.hid hW
    clear hd hW a0 a1 a2 hAB hx0 hx1
    simp only [List.drop_succ_cons, List.drop_zero]
    go_wp2_with (go_at_call 10; (with_reducible refine (set_store (HST.out.bel HW.out) HMk.out.named i y HY.out (vT y.num t) (vF y.num b) HR.out).mono ?_); rintro e w5 ⟨rfl, hst5, hg5⟩)
    exact HQ.out _ _ _ _ _ _ _ _ _ _ _ _ _ _ _ _ hst5 ((by_of_below HW.out _).trans hg5)
end Go.Proofs.YtaognphegancbaaGreatDoor
