/- vars: Made's region that appends a number. -/
import Derived.Test.YtaognphegancbaaGreatDoorVU
namespace Go.Proofs.YtaognphegancbaaGreatDoor
set_option linter.unusedVariables false
set_option linter.unusedSimpArgs false
open Go.RowKit Go.Maps Go.WideMaps
theorem grown_none {w w' : World} (hb : Below w.heap.size w w') : w.grownBy w' none := ⟨hb.os, hb.tape, hb.output, hb.size, fun i hi _ => hb.block i hi⟩
theorem row_bel {w w' : World} {base : Nat} {e : TypeId} {size : Nat} {v : Value} {n : Nat} {xs : List Value} (h : w.ownsRow base e size v n xs) (hb : Below w.heap.size w w') : w'.ownsRow base e size v n xs :=
  h.kept (grown_none hb) (by cases v.ownBlock <;> simp)
/-- What was there below n0 is as it was, but for block E. -/
structure KpE (n0 E : Nat) (w w' : World) : Prop where
  os : w'.os = w.os
  tape : w'.tape = w.tape
  output : w'.output = w.output
  size : w.heap.size ≤ w'.heap.size
  block : ∀ b, b < n0 → b ≠ E → w'.heap[b]? = w.heap[b]?
theorem KpE.trans {n0 E : Nat} {w w1 w2 : World} (h : KpE n0 E w w1) (h2 : KpE n0 E w1 w2) : KpE n0 E w w2 :=
  ⟨h2.os.trans h.os, h2.tape.trans h.tape, h2.output.trans h.output, Nat.le_trans h.size h2.size, fun b h3 h4 => (h2.block b h3 h4).trans (h.block b h3 h4)⟩
theorem KpE.of_bel {n0 E : Nat} {w w' : World} (h : Below w.heap.size w w') (hn : n0 ≤ w.heap.size) : KpE n0 E w w' := ⟨h.os, h.tape, h.output, h.size, fun b h3 _ => h.block b (by omega)⟩
theorem KpE.of_grown {n0 E : Nat} {w w' : World} {row : Option Nat} (h : w.grownBy w' row) (hn : n0 ≤ w.heap.size) (hr : ∀ k, row = some k → n0 ≤ k ∨ k = E) : KpE n0 E w w' :=
  ⟨h.os, h.tape, h.output, h.size, fun b h3 h4 => h.block b (by omega) (by
    intro he
    rcases hr b he.symm with h | h
    · omega
    · exact h4 h)⟩
theorem KpE.bel {n0 E B : Nat} {w w' : World} (h : KpE n0 E w w') (h1 : B ≤ n0) (h2 : B ≤ E) : Below B w w' := ⟨h.os, h.tape, h.output, h.size, fun b hb => h.block b (by omega) (by omega)⟩
theorem tmod5 (b : Nat) : (b : Int).tmod 5 = ((b % 5 : Nat) : Int) := by rw [Int.tmod_eq_emod_of_nonneg (by omega)]; omega
theorem set1 {W : World} {E t : Nat} {a b c v : Value} (hb : W.heap[E]? = some (.cells #[a, b, c] t (0, 0))) : (W.setCell ⟨E, 1, none⟩ v).heap[E]? = some (.cells #[a, v, c] t (0, 0)) := by
  have hE : E < W.heap.size := (Array.getElem?_eq_some_iff.1 hb).1
  have hv := (Array.getElem?_eq_some_iff.1 hb).2
  simp [World.setCell, Array.getElem_modify, hE, hv]
theorem grown1 (W : World) (E j : Nat) (v : Value) : W.grownBy (W.setCell ⟨E, j, none⟩ v) (some E) :=
  ⟨rfl, rfl, rfl, by simp [World.setCell], fun i hi hne => by rw [Below.heap_setCell _ _ _ _ (by simpa using hne)]⟩
def fives : List Nat := [0, 4607182418800017408, 4611686018427387904, 4613937818241073152, 4616189618054758400]
/-- A variable lies in the one element of a slice. -/
def OneV (v : Value) (W : World) (x : VarD) : Prop := ∃ g, v = .slice (some ⟨g, 0, none⟩) 1 1 ∧ RowV W ⟨g, 0, none⟩ [x]
theorem OneV.bel {v : Value} {W W' : World} {x : VarD} (h : OneV v W x) (hb : Below W.heap.size W W') : OneV v W' x := by
  obtain ⟨g, e, hr⟩ := h
  exact ⟨g, e, fun j u hu => cell_bel hb (hr j u hu)⟩
theorem oneV_new (W : World) (x : VarD) : RowV (W.alloc (.cells #[.string x.name, .bool x.num, .string x.text, .float .f64 x.flt] 37)) ⟨W.heap.size, 0, none⟩ [x] := (blk1 W x).rowV
def R6m (E Bx n0 : Nat) (vs : Value) (name : ByteArray) (i : Nat) (k : Nat) (v : Value) (W : World) : Prop :=
  match k with
  | 0 => v = .pointer (some ⟨E, 1, none⟩)
  | 1 => v = vs
  | 2 => v = .string name
  | 3 => v = .func (.func 56) #[] #[.pointer (some ⟨Bx, 0, none⟩)]
  | 4 => v = .int .i64 i
  | 5 => ∃ b : Nat, b < 256 ∧ v = .int .i64 b
  | 6 => ∃ b : Nat, b < 5 ∧ v = .int .i64 b
  | 7 => ∃ b : Nat, b < 5 ∧ v = .float .f64 (fives.getD b 0)
  | 8 => ∃ f, rightB true ⟨#[]⟩ f = true ∧ v = .float .f64 f
  | 9 => ∃ f, rightB true ⟨#[]⟩ f = true ∧ v = .agg #[.bool true, .string ⟨#[]⟩, .float .f64 f]
  | 10 => ∃ f, rightB true ⟨#[]⟩ f = true ∧ v = .agg #[.string name, .bool true, .string ⟨#[]⟩, .float .f64 f]
  | 11 => ∃ f, rightB true ⟨#[]⟩ f = true ∧ OneV v W ⟨name, true, ⟨#[]⟩, f⟩
  | _ => False
theorem R6m_mono (E Bx n0 : Nat) (vs : Value) (name : ByteArray) (i : Nat) : ∀ k v W W', R6m E Bx n0 vs name i k v W → Below W.heap.size W W' → R6m E Bx n0 vs name i k v W' := by
  intro k v W W' h hb
  unfold R6m at h ⊢
  split at h <;> first | (obtain ⟨f, h1, h2⟩ := h; exact ⟨f, h1, h2.bel hb⟩) | exact h
noncomputable def regM6 : Code := ((Tryz.f35.body.bind (findRegion 6)).getD .skip)
set_option maxRecDepth 100000 in
set_option maxHeartbeats 4000000 in
theorem rM6 (E Bx n0 i nv : Nat) (name : ByteArray) (A : Option Addr) (n c : Nat) (vs i0 st fv : Value) (xs : List VarD) (w : World) (p0 p1 p2 p7 p8 p9 p10 p11 p12 p13 p14 p15 p16 p17 p18 p19 p20 p21 p22 p23 p24 p25 p26 p27 p28 p29 p30 p31 p32 p33 p34 p35 p36 p37 p38 p39 p40 p41 p42 p43 p44 p45 p46 p47 p48 p49 p50 p51 p52 p53 p54 p55 p56 p57 p58 p59 p60 p61 p62 p63 p64 p65 p66 p67 p68 p69 p70 p71 p72 p73 p74 p75 p76 p77 p78 p79 p80 p81 p82 p83 p84 p85 p86 p87 p88 p89 p90 p91 p92 p93 p94 p95 p96 p97 p98 p99 p100 p101 p102 p103 p104 p105 p106 p107 p108 p109 p110 p111 p112 p113 p114 p115 p116 p117 p118 p119 p120 p121 : Value) (K0 : Act → World → Prop)
    (hfv : Hid (fv = .func (.func 56) #[] #[.pointer (some ⟨Bx, 0, none⟩)])) (hE : Hid (w.heap[E]? = some (.cells #[i0, vs, st] 81 (0, 0)))) (hEn : E < n0) (hn0 : n0 ≤ w.heap.size) (hi : i ≤ 100) (hn : n ≤ maxLen) (hnv : nv ≤ 100)
    (hB : w.cell? ⟨Bx, 1, none⟩ = some (.slice A n c)) (hA : Hid (SmallB w A n)) (hrow : Hid (w.ownsRow n0 37 4 vs nv (flat xs)))
    (hQ : ∀ (u29 u30 u31 u32 u33 u34 u35 u36 u37 u38 u39 u40 u41 u42 : Value) (w' : World) (f : Nat) (vs' : Value), rightB true ⟨#[]⟩ f = true → w'.heap[E]? = some (.cells #[i0, vs', st] 81 (0, 0)) → w'.ownsRow n0 37 4 vs' (nv + 1) (flat (xs ++ [⟨name, true, ⟨#[]⟩, f⟩])) → KpE n0 E w w' → K0 ⟨#[p0, p1, p2, .pointer (some ⟨E, 0, none⟩), fv, .int .i64 i, .string name, p7, p8, p9, p10, p11, p12, p13, p14, p15, p16, p17, p18, p19, p20, p21, p22, p23, p24, p25, p26, p27, p28, u29, u30, u31, u32, u33, u34, u35, u36, u37, u38, u39, u40, u41, u42, p43, p44, p45, p46, p47, p48, p49, p50, p51, p52, p53, p54, p55, p56, p57, p58, p59, p60, p61, p62, p63, p64, p65, p66, p67, p68, p69, p70, p71, p72, p73, p74, p75, p76, p77, p78, p79, p80, p81, p82, p83, p84, p85, p86, p87, p88, p89, p90, p91, p92, p93, p94, p95, p96, p97, p98, p99, p100, p101, p102, p103, p104, p105, p106, p107, p108, p109, p110, p111, p112, p113, p114, p115, p116, p117, p118, p119, p120, p121], []⟩ w') :
    regM6.wp Tryz.prog (Exit.then K0 fun _ _ _ => False) ⟨#[p0, p1, p2, .pointer (some ⟨E, 0, none⟩), fv, .int .i64 i, .string name, p7, p8, p9, p10, p11, p12, p13, p14, p15, p16, p17, p18, p19, p20, p21, p22, p23, p24, p25, p26, p27, p28, p29, p30, p31, p32, p33, p34, p35, p36, p37, p38, p39, p40, p41, p42, p43, p44, p45, p46, p47, p48, p49, p50, p51, p52, p53, p54, p55, p56, p57, p58, p59, p60, p61, p62, p63, p64, p65, p66, p67, p68, p69, p70, p71, p72, p73, p74, p75, p76, p77, p78, p79, p80, p81, p82, p83, p84, p85, p86, p87, p88, p89, p90, p91, p92, p93, p94, p95, p96, p97, p98, p99, p100, p101, p102, p103, p104, p105, p106, p107, p108, p109, p110, p111, p112, p113, p114, p115, p116, p117, p118, p119, p120, p121], []⟩ w := by
  conv => arg 2; whnf
  have HQ := Lib.hid hQ
  clear hQ
  have hEl : E < w.heap.size := (Array.getElem?_eq_some_iff.1 hE.out).1
  obtain ⟨is, his, hs0, hs1, hs2⟩ := info_parts var_info
  refine region_ssa' 12 (by kernel_rfl) (by kernel_rfl) (fun u => ⟨#[p0, p1, p2, .pointer (some ⟨E, 0, none⟩), fv, .int .i64 i, .string name, p7, p8, p9, p10, p11, p12, p13, p14, p15, p16, p17, p18, p19, p20, p21, p22, p23, p24, p25, p26, p27, p28, u 0, u 1, u 2, u 3, u 4, u 5, u 6, u 7, u 8, u 9, u 10, u 11, p41, p42, p43, p44, p45, p46, p47, p48, p49, p50, p51, p52, p53, p54, p55, p56, p57, p58, p59, p60, p61, p62, p63, p64, p65, p66, p67, p68, p69, p70, p71, p72, p73, p74, p75, p76, p77, p78, p79, p80, p81, p82, p83, p84, p85, p86, p87, p88, p89, p90, p91, p92, p93, p94, p95, p96, p97, p98, p99, p100, p101, p102, p103, p104, p105, p106, p107, p108, p109, p110, p111, p112, p113, p114, p115, p116, p117, p118, p119, p120, p121], []⟩) (fun k => (#[p29, p30, p31, p32, p33, p34, p35, p36, p37, p38, p39, p40] : Array Value).getD k undef) rfl ?_ (R6m E Bx n0 vs name i) (R6m_mono _ _ _ _ _ _) ?_ ?_
  · intro k hk u v
    match k, hk with
    | 0, _ => rfl
    | 1, _ => rfl
    | 2, _ => rfl
    | 3, _ => rfl
    | 4, _ => rfl
    | 5, _ => rfl
    | 6, _ => rfl
    | 7, _ => rfl
    | 8, _ => rfl
    | 9, _ => rfl
    | 10, _ => rfl
    | 11, _ => rfl
  · intro k o hk ho u W hW hd
    have e1 : W.cell? ⟨E, 1, none⟩ = some vs := by simpa using cell_of_row W E 1 _ _ _ ((hW.block E hEl).trans hE.out)
    have fB := cell_bel hW hB
    match k, hk with
    | 0, _ =>
      cases ho
      go_simp
      first | exact ⟨_, rfl, rfl, Below.refl _ _⟩ | exact ⟨rfl, Below.refl _ _⟩
    | 1, _ =>
      cases ho
      have d0 : R6m E Bx n0 vs name i 0 (u 0) W := hd 0 (by kernel_rfl)
      simp only [R6m] at d0
      go_simp
      first | exact ⟨_, rfl, rfl, Below.refl _ _⟩ | exact ⟨rfl, Below.refl _ _⟩
    | 2, _ =>
      cases ho
      go_simp
      first | exact ⟨_, rfl, rfl, Below.refl _ _⟩ | exact ⟨rfl, Below.refl _ _⟩
    | 3, _ =>
      cases ho
      go_simp
      first | exact ⟨_, rfl, hfv.out, Below.refl _ _⟩ | exact ⟨hfv.out, Below.refl _ _⟩
    | 4, _ =>
      cases ho
      go_simp
      first | exact ⟨_, rfl, rfl, Below.refl _ _⟩ | exact ⟨rfl, Below.refl _ _⟩
    | 5, _ =>
      cases ho
      have d3 : R6m E Bx n0 vs name i 3 (u 3) W := hd 3 (by kernel_rfl)
      simp only [R6m] at d3
      have d4 : R6m E Bx n0 vs name i 4 (u 4) W := hd 4 (by kernel_rfl)
      simp only [R6m] at d4
      go_simp
      refine (pick_calls Bx A n c i W hi hn fB (hA.out.bel hW)).mono ?_
      rintro e w1 ⟨b, hb, rfl, hb1⟩
      first | exact ⟨_, rfl, ⟨b, hb, rfl⟩, hb1⟩ | exact ⟨⟨b, hb, rfl⟩, hb1⟩
    | 6, _ =>
      cases ho
      have d5 : R6m E Bx n0 vs name i 5 (u 5) W := hd 5 (by kernel_rfl)
      simp only [R6m] at d5
      obtain ⟨b, hb, e⟩ := d5
      go_simp
      exact ⟨⟨b % 5, Nat.mod_lt _ (by omega), congrArg (Value.int IntKind.i64) (tmod5 b)⟩, Below.refl _ _⟩
    | 7, _ =>
      cases ho
      have d6 : R6m E Bx n0 vs name i 6 (u 6) W := hd 6 (by kernel_rfl)
      simp only [R6m] at d6
      obtain ⟨b, hb, e⟩ := d6
      have hb' : b = 0 ∨ b = 1 ∨ b = 2 ∨ b = 3 ∨ b = 4 := by omega
      rcases hb' with rfl | rfl | rfl | rfl | rfl
      · go_simp
        exact ⟨⟨0, by omega, congrArg (Value.float FloatKind.f64) (by decide +kernel)⟩, Below.refl _ _⟩
      · go_simp
        exact ⟨⟨1, by omega, congrArg (Value.float FloatKind.f64) (by decide +kernel)⟩, Below.refl _ _⟩
      · go_simp
        exact ⟨⟨2, by omega, congrArg (Value.float FloatKind.f64) (by decide +kernel)⟩, Below.refl _ _⟩
      · go_simp
        exact ⟨⟨3, by omega, congrArg (Value.float FloatKind.f64) (by decide +kernel)⟩, Below.refl _ _⟩
      · go_simp
        exact ⟨⟨4, by omega, congrArg (Value.float FloatKind.f64) (by decide +kernel)⟩, Below.refl _ _⟩
    | 8, _ =>
      cases ho
      have d7 : R6m E Bx n0 vs name i 7 (u 7) W := hd 7 (by kernel_rfl)
      simp only [R6m] at d7
      obtain ⟨b, hb, e⟩ := d7
      have hb' : b = 0 ∨ b = 1 ∨ b = 2 ∨ b = 3 ∨ b = 4 := by omega
      rcases hb' with rfl | rfl | rfl | rfl | rfl
      · simp only [fives, List.getD_cons_zero, List.getD_cons_succ] at e
        have hr := run_float_arith (P := Tryz.prog) W .quo 33 .f64 0 4611686018427387904 0 (by decide +kernel)
        go_simp
        exact ⟨⟨0, by decide +kernel, rfl⟩, Below.refl _ _⟩
      · simp only [fives, List.getD_cons_zero, List.getD_cons_succ] at e
        have hr := run_float_arith (P := Tryz.prog) W .quo 33 .f64 4607182418800017408 4611686018427387904 4602678819172646912 (by decide +kernel)
        go_simp
        exact ⟨⟨4602678819172646912, by decide +kernel, rfl⟩, Below.refl _ _⟩
      · simp only [fives, List.getD_cons_zero, List.getD_cons_succ] at e
        have hr := run_float_arith (P := Tryz.prog) W .quo 33 .f64 4611686018427387904 4611686018427387904 4607182418800017408 (by decide +kernel)
        go_simp
        exact ⟨⟨4607182418800017408, by decide +kernel, rfl⟩, Below.refl _ _⟩
      · simp only [fives, List.getD_cons_zero, List.getD_cons_succ] at e
        have hr := run_float_arith (P := Tryz.prog) W .quo 33 .f64 4613937818241073152 4611686018427387904 4609434218613702656 (by decide +kernel)
        go_simp
        exact ⟨⟨4609434218613702656, by decide +kernel, rfl⟩, Below.refl _ _⟩
      · simp only [fives, List.getD_cons_zero, List.getD_cons_succ] at e
        have hr := run_float_arith (P := Tryz.prog) W .quo 33 .f64 4616189618054758400 4611686018427387904 4611686018427387904 (by decide +kernel)
        go_simp
        exact ⟨⟨4611686018427387904, by decide +kernel, rfl⟩, Below.refl _ _⟩
    | 9, _ =>
      cases ho
      have d8 : R6m E Bx n0 vs name i 8 (u 8) W := hd 8 (by kernel_rfl)
      simp only [R6m] at d8
      obtain ⟨f, hf, e⟩ := d8
      go_simp
      first | exact ⟨_, rfl, ⟨f, hf, rfl⟩, Below.refl _ _⟩ | exact ⟨⟨f, hf, rfl⟩, Below.refl _ _⟩
    | 10, _ =>
      cases ho
      have d2 : R6m E Bx n0 vs name i 2 (u 2) W := hd 2 (by kernel_rfl)
      simp only [R6m] at d2
      have d9 : R6m E Bx n0 vs name i 9 (u 9) W := hd 9 (by kernel_rfl)
      simp only [R6m] at d9
      obtain ⟨f, hf, e⟩ := d9
      go_simp
      first | exact ⟨_, rfl, ⟨f, hf, rfl⟩, Below.refl _ _⟩ | exact ⟨⟨f, hf, rfl⟩, Below.refl _ _⟩
    | 11, _ =>
      cases ho
      have d10 : R6m E Bx n0 vs name i 10 (u 10) W := hd 10 (by kernel_rfl)
      simp only [R6m] at d10
      obtain ⟨f, hf, e⟩ := d10
      go_simp
      exact ⟨⟨f, hf, _, rfl, oneV_new W ⟨name, true, ⟨#[]⟩, f⟩⟩, (Below.refl _ W).alloc (Nat.le_refl _) _⟩
  · intro u W hW hd
    have d1 : R6m E Bx n0 vs name i 1 (u 1) W := hd 1 (by decide)
    have d11 : R6m E Bx n0 vs name i 11 (u 11) W := hd 11 (by decide)
    simp only [R6m] at d1
    obtain ⟨f, hf, g, hg, hgr⟩ := d11
    have HR := Lib.hid (row_bel hrow.out hW)
    have HG := Lib.hid hgr
    have HB := Lib.hid ((hW.block E hEl).trans hE.out)
    have HW := Lib.hid hW
    have hsz := hW.size
    clear hd hgr hW
    simp only [List.drop_succ_cons, List.drop_zero]
    go_wp2_with (at_builtin; refine wpList_append_lies _ rfl _ _ 29 rfl n0 37 is zVar 4 48 Tryz.underlying29 his hs0 hs1 hs2 rfl (by decide) vs nv (flat xs) (by exact d1) HR.out ⟨g, 0, none⟩ 1 1 (flat [⟨name, true, ⟨#[]⟩, f⟩]) (by exact hg) rfl HG.out (flat_one _) (by decide) (by unfold maxLen; omega) (by omega) (by omega) _ rfl ?_; intro g' cap w1 hown hgr1 hat hlt; have hE1 := (hgr1.block E (by omega) (fun he => by have := (HR.out.lt E he.symm).1; omega)).trans HB.out; have e1 : w1.cell? ⟨E, 1, none⟩ = some vs := (by simpa using cell_of_row w1 E 1 _ _ _ hE1); have z1 := frozen_of_row w1 E 1 _ _ hE1; have HOwn := Lib.hid hown; have HGr := Lib.hid hgr1; have HE1 := Lib.hid hE1; clear hown hgr1 hE1 hat)
    have G1 := grown1 w1 E 1 (.slice (some ⟨g', 0, none⟩) (nv + 1) cap)
    refine HQ.out _ _ _ _ _ _ _ _ _ _ _ _ _ _ _ f (.slice (some ⟨g', 0, none⟩) (nv + 1) cap) hf (set1 HE1.out) ?_ ?_
    · have h1 := HOwn.out.kept G1 (.inr (fun he => by have := (HOwn.out.lt E he).1; omega))
      have h2 : flat (xs ++ [⟨name, true, ⟨#[]⟩, f⟩]) = flat xs ++ flat [⟨name, true, ⟨#[]⟩, f⟩] := by simp [flat]
      rw [h2]; exact h1
    · exact (KpE.of_bel HW.out hn0).trans ((KpE.of_grown HGr.out (by omega) (fun k hk => .inl (HR.out.lt k hk).1)).trans (KpE.of_grown G1 (by have := HGr.out.size; omega) (fun k hk => .inr (by cases hk; rfl))))
end Go.Proofs.YtaognphegancbaaGreatDoor
