/- vars: Made's region that appends a text. -/
import Derived.Test.YtaognphegancbaaGreatDoorVV
namespace Go.Proofs.YtaognphegancbaaGreatDoor
set_option linter.unusedVariables false
set_option linter.unusedSimpArgs false
open Go.RowKit Go.Maps Go.WideMaps
def fiveT : List ByteArray := [⟨#[]⟩, ⟨#[97]⟩, ⟨#[98, 98]⟩, ⟨#[49]⟩, ⟨#[48, 46, 53]⟩]
def R11m (E Bx n0 : Nat) (vs : Value) (name : ByteArray) (i : Nat) (k : Nat) (v : Value) (W : World) : Prop :=
  match k with
  | 0 => v = .pointer (some ⟨E, 1, none⟩)
  | 1 => v = vs
  | 2 => v = .string name
  | 3 => ∃ g, v = .slice (some ⟨g, 0, none⟩) 5 5 ∧ ∀ j, j < 5 → W.cell? ⟨g, j, none⟩ = some (.string (fiveT.getD j ByteArray.empty))
  | 4 => v = .func (.func 56) #[] #[.pointer (some ⟨Bx, 0, none⟩)]
  | 5 => v = .int .i64 i
  | 6 => v = .int .i64 ((i + 4 : Nat) : Int)
  | 7 => ∃ b : Nat, b < 256 ∧ v = .int .i64 b
  | 8 => ∃ b : Nat, b < 5 ∧ v = .int .i64 b
  | 9 => ∃ g o s, rightB false s 0 = true ∧ v = .pointer (some ⟨g, o, none⟩) ∧ W.cell? ⟨g, o, none⟩ = some (.string s)
  | 10 => ∃ s, rightB false s 0 = true ∧ v = .string s
  | 11 => ∃ s, rightB false s 0 = true ∧ v = .agg #[.bool false, .string s, .float .f64 0]
  | 12 => ∃ s, rightB false s 0 = true ∧ v = .agg #[.string name, .bool false, .string s, .float .f64 0]
  | 13 => ∃ s, rightB false s 0 = true ∧ OneV v W ⟨name, false, s, 0⟩
  | _ => False
theorem R11m_mono (E Bx n0 : Nat) (vs : Value) (name : ByteArray) (i : Nat) : ∀ k v W W', R11m E Bx n0 vs name i k v W → Below W.heap.size W W' → R11m E Bx n0 vs name i k v W' := by
  intro k v W W' h hb
  unfold R11m at h ⊢
  split at h <;> first | (obtain ⟨f, h1, h2⟩ := h; exact ⟨f, h1, OneV.bel h2 hb⟩) | (obtain ⟨g, h1, h2⟩ := h; exact ⟨g, h1, fun j hj => cell_bel hb (h2 j hj)⟩) | (obtain ⟨g, o, s, h0, h1, h2⟩ := h; exact ⟨g, o, s, h0, h1, cell_bel hb h2⟩) | exact h
noncomputable def regM11 : Code := ((Tryz.f35.body.bind (findRegion 11)).getD .skip)
set_option maxRecDepth 100000 in
set_option maxHeartbeats 4000000 in
theorem rM11 (E Bx n0 i nv : Nat) (name : ByteArray) (A : Option Addr) (n c : Nat) (vs i0 st fv : Value) (xs : List VarD) (w : World) (p0 p1 p2 p5 p6 p9 p10 p11 p12 p13 p14 p15 p16 p17 p18 p19 p20 p21 p22 p23 p24 p25 p26 p27 p28 p29 p30 p31 p32 p33 p34 p35 p36 p37 p38 p39 p40 p41 p42 p43 p44 p45 p46 p47 p48 p49 p50 p51 p52 p53 p54 p55 p56 p57 p58 p59 p60 p61 p62 p63 p64 p65 p66 p67 p68 p69 p70 p71 p72 p73 p74 p75 p76 p77 p78 p79 p80 p81 p82 p83 p84 p85 p86 p87 p88 p89 p90 p91 p92 p93 p94 p95 p96 p97 p98 p99 p100 p101 p102 p103 p104 p105 p106 p107 p108 p109 p110 p111 p112 p113 p114 p115 p116 p117 p118 p119 p120 p121 : Value) (K0 : Act → World → Prop)
    (hfv : Hid (fv = .func (.func 56) #[] #[.pointer (some ⟨Bx, 0, none⟩)])) (hE : Hid (w.heap[E]? = some (.cells #[i0, vs, st] 81 (0, 0)))) (hEn : E < n0) (hn0 : n0 ≤ w.heap.size) (hi : i ≤ 90) (hn : n ≤ maxLen) (hnv : nv ≤ 100)
    (hB : w.cell? ⟨Bx, 1, none⟩ = some (.slice A n c)) (hA : Hid (SmallB w A n)) (hrow : Hid (w.ownsRow n0 37 4 vs nv (flat xs)))
    (hQ : ∀ (u51 u52 u53 u54 u55 u56 u57 u58 u59 u60 u61 u62 u63 u64 u65 u66 : Value) (w' : World) (s : ByteArray) (vs' : Value), rightB false s 0 = true → w'.heap[E]? = some (.cells #[i0, vs', st] 81 (0, 0)) → w'.ownsRow n0 37 4 vs' (nv + 1) (flat (xs ++ [⟨name, false, s, 0⟩])) → KpE n0 E w w' → (∀ b, b < w.heap.size → b ≠ E → vs.ownBlock ≠ some b → w'.heap[b]? = w.heap[b]?) → K0 ⟨#[p0, p1, p2, .pointer (some ⟨E, 0, none⟩), fv, p5, p6, .int .i64 i, .string name, p9, p10, p11, p12, p13, p14, p15, p16, p17, p18, p19, p20, p21, p22, p23, p24, p25, p26, p27, p28, p29, p30, p31, p32, p33, p34, p35, p36, p37, p38, p39, p40, p41, p42, p43, p44, p45, p46, p47, p48, p49, p50, u51, u52, u53, u54, u55, u56, u57, u58, u59, u60, u61, u62, u63, u64, u65, u66, p67, p68, p69, p70, p71, p72, p73, p74, p75, p76, p77, p78, p79, p80, p81, p82, p83, p84, p85, p86, p87, p88, p89, p90, p91, p92, p93, p94, p95, p96, p97, p98, p99, p100, p101, p102, p103, p104, p105, p106, p107, p108, p109, p110, p111, p112, p113, p114, p115, p116, p117, p118, p119, p120, p121], []⟩ w') :
    regM11.wp Tryz.prog (Exit.then K0 fun _ _ _ => False) ⟨#[p0, p1, p2, .pointer (some ⟨E, 0, none⟩), fv, p5, p6, .int .i64 i, .string name, p9, p10, p11, p12, p13, p14, p15, p16, p17, p18, p19, p20, p21, p22, p23, p24, p25, p26, p27, p28, p29, p30, p31, p32, p33, p34, p35, p36, p37, p38, p39, p40, p41, p42, p43, p44, p45, p46, p47, p48, p49, p50, p51, p52, p53, p54, p55, p56, p57, p58, p59, p60, p61, p62, p63, p64, p65, p66, p67, p68, p69, p70, p71, p72, p73, p74, p75, p76, p77, p78, p79, p80, p81, p82, p83, p84, p85, p86, p87, p88, p89, p90, p91, p92, p93, p94, p95, p96, p97, p98, p99, p100, p101, p102, p103, p104, p105, p106, p107, p108, p109, p110, p111, p112, p113, p114, p115, p116, p117, p118, p119, p120, p121], []⟩ w := by
  conv => arg 2; whnf
  have HQ := Lib.hid hQ
  clear hQ
  have hEl : E < w.heap.size := (Array.getElem?_eq_some_iff.1 hE.out).1
  obtain ⟨is, his, hs0, hs1, hs2⟩ := info_parts var_info
  refine region_ssa' 14 (by kernel_rfl) (by kernel_rfl) (fun u => ⟨#[p0, p1, p2, .pointer (some ⟨E, 0, none⟩), fv, p5, p6, .int .i64 i, .string name, p9, p10, p11, p12, p13, p14, p15, p16, p17, p18, p19, p20, p21, p22, p23, p24, p25, p26, p27, p28, p29, p30, p31, p32, p33, p34, p35, p36, p37, p38, p39, p40, p41, p42, p43, p44, p45, p46, p47, p48, p49, p50, u 0, u 1, u 2, u 3, u 4, u 5, u 6, u 7, u 8, u 9, u 10, u 11, u 12, u 13, p65, p66, p67, p68, p69, p70, p71, p72, p73, p74, p75, p76, p77, p78, p79, p80, p81, p82, p83, p84, p85, p86, p87, p88, p89, p90, p91, p92, p93, p94, p95, p96, p97, p98, p99, p100, p101, p102, p103, p104, p105, p106, p107, p108, p109, p110, p111, p112, p113, p114, p115, p116, p117, p118, p119, p120, p121], []⟩) (fun k => (#[p51, p52, p53, p54, p55, p56, p57, p58, p59, p60, p61, p62, p63, p64] : Array Value).getD k undef) rfl ?_ (R11m E Bx n0 vs name i) (R11m_mono _ _ _ _ _ _) ?_ ?_
  · intro k hk u v
    match k, hk with
    | 0, _ => rfl
    | 1, _ => rfl
    | 2, _ => rfl
    | 3, _ => rfl
    | 4, _ => rfl
    | 5, _ => rfl
    | 6, _ => rfl
    | 7, _ => rfl
    | 8, _ => rfl
    | 9, _ => rfl
    | 10, _ => rfl
    | 11, _ => rfl
    | 12, _ => rfl
    | 13, _ => rfl
  · intro k o hk ho u W hW hd
    have e1 : W.cell? ⟨E, 1, none⟩ = some vs := by simpa using cell_of_row W E 1 _ _ _ ((hW.block E hEl).trans hE.out)
    have fB := cell_bel hW hB
    match k, hk with
    | 0, _ =>
      cases ho
      go_simp
      first | exact ⟨_, rfl, rfl, Below.refl _ _⟩ | exact ⟨rfl, Below.refl _ _⟩
    | 1, _ =>
      cases ho
      have d0 : R11m E Bx n0 vs name i 0 (u 0) W := hd 0 (by kernel_rfl)
      simp only [R11m] at d0
      go_simp
      first | exact ⟨_, rfl, rfl, Below.refl _ _⟩ | exact ⟨rfl, Below.refl _ _⟩
    | 2, _ =>
      cases ho
      go_simp
      first | exact ⟨_, rfl, rfl, Below.refl _ _⟩ | exact ⟨rfl, Below.refl _ _⟩
    | 3, _ =>
      cases ho
      go_simp
      refine ⟨⟨W.heap.size, rfl, fun j hj => ?_⟩, (Below.refl _ W).alloc (Nat.le_refl _) _⟩
      have := strs_new W fiveT 9 j hj
      rwa [Nat.zero_add] at this
    | 4, _ =>
      cases ho
      go_simp
      first | exact ⟨_, rfl, hfv.out, Below.refl _ _⟩ | exact ⟨hfv.out, Below.refl _ _⟩
    | 5, _ =>
      cases ho
      go_simp
      first | exact ⟨_, rfl, rfl, Below.refl _ _⟩ | exact ⟨rfl, Below.refl _ _⟩
    | 6, _ =>
      cases ho
      have d5 : R11m E Bx n0 vs name i 5 (u 5) W := hd 5 (by kernel_rfl)
      simp only [R11m] at d5
      go_simp
      exact ⟨congrArg (Value.int IntKind.i64) (by first | omega | (rw [IntWalk.i64_in _ (by omega)]; omega) | go_num | trace_state), Below.refl _ _⟩
    | 7, _ =>
      cases ho
      have d4 : R11m E Bx n0 vs name i 4 (u 4) W := hd 4 (by kernel_rfl)
      simp only [R11m] at d4
      have d6 : R11m E Bx n0 vs name i 6 (u 6) W := hd 6 (by kernel_rfl)
      simp only [R11m] at d6
      go_simp
      refine (pick_calls Bx A n c (i + 4) W (by omega) hn fB (hA.out.bel hW)).mono ?_
      rintro e w1 ⟨b, hb, rfl, hb1⟩
      first | exact ⟨_, rfl, ⟨b, hb, rfl⟩, hb1⟩ | exact ⟨⟨b, hb, rfl⟩, hb1⟩
    | 8, _ =>
      cases ho
      have d7 : R11m E Bx n0 vs name i 7 (u 7) W := hd 7 (by kernel_rfl)
      simp only [R11m] at d7
      obtain ⟨b, hb, e⟩ := d7
      go_simp
      exact ⟨⟨b % 5, Nat.mod_lt _ (by omega), congrArg (Value.int IntKind.i64) (tmod5 b)⟩, Below.refl _ _⟩
    | 9, _ =>
      cases ho
      have d3 : R11m E Bx n0 vs name i 3 (u 3) W := hd 3 (by kernel_rfl)
      simp only [R11m] at d3
      have d8 : R11m E Bx n0 vs name i 8 (u 8) W := hd 8 (by kernel_rfl)
      simp only [R11m] at d8
      obtain ⟨g, e3, hc⟩ := d3
      obtain ⟨b, hb, e⟩ := d8
      have hb' : b = 0 ∨ b = 1 ∨ b = 2 ∨ b = 3 ∨ b = 4 := by omega
      rcases hb' with rfl | rfl | rfl | rfl | rfl
      · go_simp
        exact ⟨⟨g, 0, _, by decide +kernel, rfl, hc 0 (by decide)⟩, Below.refl _ _⟩
      · go_simp
        exact ⟨⟨g, 1, _, by decide +kernel, rfl, hc 1 (by decide)⟩, Below.refl _ _⟩
      · go_simp
        exact ⟨⟨g, 2, _, by decide +kernel, rfl, hc 2 (by decide)⟩, Below.refl _ _⟩
      · go_simp
        exact ⟨⟨g, 3, _, by decide +kernel, rfl, hc 3 (by decide)⟩, Below.refl _ _⟩
      · go_simp
        exact ⟨⟨g, 4, _, by decide +kernel, rfl, hc 4 (by decide)⟩, Below.refl _ _⟩
    | 10, _ =>
      cases ho
      have d9 : R11m E Bx n0 vs name i 9 (u 9) W := hd 9 (by kernel_rfl)
      simp only [R11m] at d9
      obtain ⟨g, o, s, hs, e, hc⟩ := d9
      go_simp
      first | exact ⟨_, rfl, ⟨s, hs, rfl⟩, Below.refl _ _⟩ | exact ⟨⟨s, hs, rfl⟩, Below.refl _ _⟩
    | 11, _ =>
      cases ho
      have d10 : R11m E Bx n0 vs name i 10 (u 10) W := hd 10 (by kernel_rfl)
      simp only [R11m] at d10
      obtain ⟨s, hs, e⟩ := d10
      go_simp
      first | exact ⟨_, rfl, ⟨s, hs, rfl⟩, Below.refl _ _⟩ | exact ⟨⟨s, hs, rfl⟩, Below.refl _ _⟩
    | 12, _ =>
      cases ho
      have d2 : R11m E Bx n0 vs name i 2 (u 2) W := hd 2 (by kernel_rfl)
      simp only [R11m] at d2
      have d11 : R11m E Bx n0 vs name i 11 (u 11) W := hd 11 (by kernel_rfl)
      simp only [R11m] at d11
      obtain ⟨s, hs, e⟩ := d11
      go_simp
      first | exact ⟨_, rfl, ⟨s, hs, rfl⟩, Below.refl _ _⟩ | exact ⟨⟨s, hs, rfl⟩, Below.refl _ _⟩
    | 13, _ =>
      cases ho
      have d12 : R11m E Bx n0 vs name i 12 (u 12) W := hd 12 (by kernel_rfl)
      simp only [R11m] at d12
      obtain ⟨s, hs, e⟩ := d12
      go_simp
      exact ⟨⟨s, hs, _, rfl, oneV_new W ⟨name, false, s, 0⟩⟩, (Below.refl _ W).alloc (Nat.le_refl _) _⟩
  · intro u W hW hd
    have d1 : R11m E Bx n0 vs name i 1 (u 1) W := hd 1 (by decide)
    have d13 : R11m E Bx n0 vs name i 13 (u 13) W := hd 13 (by decide)
    simp only [R11m] at d1
    obtain ⟨f, hf, g, hg, hgr⟩ := d13
    have HR := Lib.hid (row_bel hrow.out hW)
    have HG := Lib.hid hgr
    have HB := Lib.hid ((hW.block E hEl).trans hE.out)
    have HW := Lib.hid hW
    have hsz := hW.size
    clear hd hgr hW
    simp only [List.drop_succ_cons, List.drop_zero]
    go_wp2_with (at_builtin; refine wpList_append_lies _ rfl _ _ 29 rfl n0 37 is zVar 4 48 Tryz.underlying29 his hs0 hs1 hs2 rfl (by decide) vs nv (flat xs) (by exact d1) HR.out ⟨g, 0, none⟩ 1 1 (flat [⟨name, false, f, 0⟩]) (by exact hg) rfl HG.out (flat_one _) (by decide) (by unfold maxLen; omega) (by omega) (by omega) _ rfl ?_; intro g' cap w1 hown hgr1 hat hlt; have hE1 := (hgr1.block E (by omega) (fun he => by have := (HR.out.lt E he.symm).1; omega)).trans HB.out; have e1 : w1.cell? ⟨E, 1, none⟩ = some vs := (by simpa using cell_of_row w1 E 1 _ _ _ hE1); have z1 := frozen_of_row w1 E 1 _ _ hE1; have HOwn := Lib.hid hown; have HGr := Lib.hid hgr1; have HE1 := Lib.hid hE1; clear hown hgr1 hE1 hat)
    have G1 := grown1 w1 E 1 (.slice (some ⟨g', 0, none⟩) (nv + 1) cap)
    refine HQ.out _ _ _ _ _ _ _ _ _ _ _ _ _ _ _ _ _ f (.slice (some ⟨g', 0, none⟩) (nv + 1) cap) hf (set1 HE1.out) ?_ ?_ ?_
    · have h1 := HOwn.out.kept G1 (.inr (fun he => by have := (HOwn.out.lt E he).1; omega))
      have h2 : flat (xs ++ [⟨name, false, f, 0⟩]) = flat xs ++ flat [⟨name, false, f, 0⟩] := by simp [flat]
      rw [h2]; exact h1
    · exact (KpE.of_bel HW.out hn0).trans ((KpE.of_grown HGr.out (by omega) (fun k hk => .inl (HR.out.lt k hk).1)).trans (KpE.of_grown G1 (by have := HGr.out.size; omega) (fun k hk => .inr (by cases hk; rfl))))
    · exact fun b h1 h2 h3 => ((G1.block b (by have := HGr.out.size; omega) (by simpa using h2)).trans (HGr.out.block b (by omega) (fun he => h3 he.symm))).trans (HW.out.block b h1)
end Go.Proofs.YtaognphegancbaaGreatDoor
