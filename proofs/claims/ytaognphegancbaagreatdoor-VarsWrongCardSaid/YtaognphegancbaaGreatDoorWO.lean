/- vars: VarsWrong's region that appends a variable to a clone. -/
import Derived.Test.YtaognphegancbaaGreatDoorWM
namespace Go.Proofs.YtaognphegancbaaGreatDoor
set_option linter.unusedVariables false
set_option linter.unusedSimpArgs false
open Go.RowKit Go.Maps Go.WideMaps
theorem Blk.rowAt {w : World} {g c b : Nat} {xs : List VarD} (h : Blk w g c xs) (hb0 : b ≤ g) : w.ownsRow b 37 4 (.slice (some ⟨g, 0, none⟩) xs.length c) xs.length (flat xs) := by
  obtain ⟨cells, hb, h1, h2, h3, h4⟩ := h
  exact ⟨flat_len xs, .inr ⟨g, c, cells, rfl, hb0, hb, h1, h2, h3, h4⟩⟩
def RW (g cp n0 : Nat) (x : VarD) (xs : List VarD) (k : Nat) (v : Value) (W : World) : Prop :=
  match k with
  | 0 => v = .slice (some ⟨g, 0, none⟩) 6 cp
  | 1 => ∃ g' c', v = .slice (some ⟨g', 0, none⟩) 6 c' ∧ n0 ≤ g' ∧ Blk W g' c' xs
  | 2 => v = .agg #[.string x.name, .bool x.num, .string x.text, .float .f64 x.flt]
  | 3 => OneV v W x
  | _ => False
theorem RW_mono (g cp n0 : Nat) (x : VarD) (xs : List VarD) : ∀ k v W W', RW g cp n0 x xs k v W → Below W.heap.size W W' → RW g cp n0 x xs k v W' := by
  intro k v W W' h hb
  unfold RW at h ⊢
  split at h <;> first | (obtain ⟨g', c', e, h1, h2⟩ := h; exact ⟨g', c', e, h1, h2.bel hb⟩) | exact h.bel hb | exact h
noncomputable def regW16 : Code := ((Tryz.f5.body.bind (findRegion 16)).getD .skip)
set_option maxRecDepth 100000 in
set_option maxHeartbeats 4000000 in
theorem rW16 (g cp VB : Nat) (x : VarD) (xs : List VarD) (w : World) (p0 p1 p2 p3 p4 p5 p6 p7 p8 p9 p11 p12 p14 p15 p16 p17 p18 p19 p20 p21 p22 p23 p24 p25 p26 p27 p28 p29 p30 p31 p32 p33 p34 p35 p36 p37 p38 p39 p40 p41 p42 p43 p44 p45 p46 p47 p48 p49 p50 p51 p52 p53 p54 p55 p56 p57 p58 p59 p60 p61 p62 p63 p64 p65 p66 p67 p68 p69 p70 p71 p72 p73 p74 p75 p76 p77 p78 p79 p80 p81 p82 p83 p84 p85 p86 p87 p88 p89 p90 p91 p92 p93 p94 p95 p96 p97 p98 p99 p100 p101 p102 p103 p104 p105 p106 p107 p108 p109 p110 p111 p112 p113 p114 p115 p116 p117 p118 p119 p120 p121 p122 p123 p124 p125 p126 p127 p128 p129 p130 p131 p132 p133 p134 p135 p136 p137 p138 p139 p140 p141 p142 p143 p144 p145 p146 p147 p148 p149 p150 p151 p152 p153 p154 p155 p156 p157 p158 p159 p160 p161 p162 p163 p164 p165 p166 p167 p168 p169 p170 p171 p172 p173 p174 p175 p176 p177 p178 p179 p180 p181 p182 p183 p184 p185 p186 : Value) (K0 : Act → World → Prop)
    (hl : xs.length = 6) (hB : Hid (Blk w g cp xs)) (a0 : w.cell? ⟨VB, 0, none⟩ = some (.string x.name)) (a1 : w.cell? ⟨VB, 1, none⟩ = some (.bool x.num)) (a2 : w.cell? ⟨VB, 2, none⟩ = some (.string x.text)) (a3 : w.cell? ⟨VB, 3, none⟩ = some (.float .f64 x.flt))
    (hQ : ∀ (u105 u106 u107 u108 u109 : Value) (w' : World) (g' c' : Nat), Blk w' g' c' (xs ++ [x]) → Below w.heap.size w w' → K0 ⟨#[p0, p1, p2, p3, p4, p5, p6, p7, p8, p9, .slice (some ⟨g, 0, none⟩) 6 cp, p11, p12, .pointer (some ⟨VB, 0, none⟩), p14, p15, p16, p17, p18, .slice (some ⟨g', 0, none⟩) 7 c', p20, p21, p22, p23, p24, p25, p26, p27, p28, p29, p30, p31, p32, p33, p34, p35, p36, p37, p38, p39, p40, p41, p42, p43, p44, p45, p46, p47, p48, p49, p50, p51, p52, p53, p54, p55, p56, p57, p58, p59, p60, p61, p62, p63, p64, p65, p66, p67, p68, p69, p70, p71, p72, p73, p74, p75, p76, p77, p78, p79, p80, p81, p82, p83, p84, p85, p86, p87, p88, p89, p90, p91, p92, p93, p94, p95, p96, p97, p98, p99, p100, p101, p102, p103, p104, u105, u106, u107, u108, u109, p110, p111, p112, p113, p114, p115, p116, p117, p118, p119, p120, p121, p122, p123, p124, p125, p126, p127, p128, p129, p130, p131, p132, p133, p134, p135, p136, p137, p138, p139, p140, p141, p142, p143, p144, p145, p146, p147, p148, p149, p150, p151, p152, p153, p154, p155, p156, p157, p158, p159, p160, p161, p162, p163, p164, p165, p166, p167, p168, p169, p170, p171, p172, p173, p174, p175, p176, p177, p178, p179, p180, p181, p182, p183, p184, p185, p186], []⟩ w') :
    regW16.wp Tryz.prog (Exit.then K0 fun _ _ _ => False) ⟨#[p0, p1, p2, p3, p4, p5, p6, p7, p8, p9, .slice (some ⟨g, 0, none⟩) 6 cp, p11, p12, .pointer (some ⟨VB, 0, none⟩), p14, p15, p16, p17, p18, p19, p20, p21, p22, p23, p24, p25, p26, p27, p28, p29, p30, p31, p32, p33, p34, p35, p36, p37, p38, p39, p40, p41, p42, p43, p44, p45, p46, p47, p48, p49, p50, p51, p52, p53, p54, p55, p56, p57, p58, p59, p60, p61, p62, p63, p64, p65, p66, p67, p68, p69, p70, p71, p72, p73, p74, p75, p76, p77, p78, p79, p80, p81, p82, p83, p84, p85, p86, p87, p88, p89, p90, p91, p92, p93, p94, p95, p96, p97, p98, p99, p100, p101, p102, p103, p104, p105, p106, p107, p108, p109, p110, p111, p112, p113, p114, p115, p116, p117, p118, p119, p120, p121, p122, p123, p124, p125, p126, p127, p128, p129, p130, p131, p132, p133, p134, p135, p136, p137, p138, p139, p140, p141, p142, p143, p144, p145, p146, p147, p148, p149, p150, p151, p152, p153, p154, p155, p156, p157, p158, p159, p160, p161, p162, p163, p164, p165, p166, p167, p168, p169, p170, p171, p172, p173, p174, p175, p176, p177, p178, p179, p180, p181, p182, p183, p184, p185, p186], []⟩ w := by
  conv => arg 2; whnf
  have HQ := Lib.hid hQ
  have HL := Lib.hid hl
  obtain ⟨is, his, hs0, hs1, hs2⟩ := info_parts var_info
  clear hQ hl
  refine region_ssa' 4 (by kernel_rfl) (by kernel_rfl) (fun u => ⟨#[p0, p1, p2, p3, p4, p5, p6, p7, p8, p9, .slice (some ⟨g, 0, none⟩) 6 cp, p11, p12, .pointer (some ⟨VB, 0, none⟩), p14, p15, p16, p17, p18, p19, p20, p21, p22, p23, p24, p25, p26, p27, p28, p29, p30, p31, p32, p33, p34, p35, p36, p37, p38, p39, p40, p41, p42, p43, p44, p45, p46, p47, p48, p49, p50, p51, p52, p53, p54, p55, p56, p57, p58, p59, p60, p61, p62, p63, p64, p65, p66, p67, p68, p69, p70, p71, p72, p73, p74, p75, p76, p77, p78, p79, p80, p81, p82, p83, p84, p85, p86, p87, p88, p89, p90, p91, p92, p93, p94, p95, p96, p97, p98, p99, p100, p101, p102, p103, p104, u 0, u 1, u 2, u 3, p109, p110, p111, p112, p113, p114, p115, p116, p117, p118, p119, p120, p121, p122, p123, p124, p125, p126, p127, p128, p129, p130, p131, p132, p133, p134, p135, p136, p137, p138, p139, p140, p141, p142, p143, p144, p145, p146, p147, p148, p149, p150, p151, p152, p153, p154, p155, p156, p157, p158, p159, p160, p161, p162, p163, p164, p165, p166, p167, p168, p169, p170, p171, p172, p173, p174, p175, p176, p177, p178, p179, p180, p181, p182, p183, p184, p185, p186], []⟩) (fun k => (#[p105, p106, p107, p108] : Array Value).getD k undef) rfl ?_ (RW g cp w.heap.size x xs) (RW_mono _ _ _ _ _) ?_ ?_
  · intro k hk u v
    match k, hk with
    | 0, _ => rfl
    | 1, _ => rfl
    | 2, _ => rfl
    | 3, _ => rfl
  · intro k o hk ho u W hW hd
    have f0 := cell_bel hW a0
    have f1 := cell_bel hW a1
    have f2 := cell_bel hW a2
    have f3 := cell_bel hW a3
    match k, hk with
    | 0, _ =>
      cases ho
      go_simp
      first | exact ⟨_, rfl, rfl, Below.refl _ _⟩ | exact ⟨rfl, Below.refl _ _⟩
    | 1, _ =>
      cases ho
      have d0 : RW g cp w.heap.size x xs 0 (u 0) W := hd 0 (by kernel_rfl)
      simp only [RW] at d0
      go_simp
      refine (clone_calls g cp 6 xs W (hB.out.bel hW) (by omega) HL.out.symm (by omega)).mono ?_
      rintro e w1 ⟨g', c', rfl, hg', hb', hb1⟩
      have hsz := hW.size
      first | exact ⟨_, rfl, ⟨g', c', rfl, by omega, hb'⟩, hb1⟩ | exact ⟨⟨g', c', rfl, by omega, hb'⟩, hb1⟩
    | 2, _ =>
      cases ho
      go_simp
      first | exact ⟨_, rfl, rfl, Below.refl _ _⟩ | exact ⟨rfl, Below.refl _ _⟩
    | 3, _ =>
      cases ho
      have d2 : RW g cp w.heap.size x xs 2 (u 2) W := hd 2 (by kernel_rfl)
      simp only [RW] at d2
      go_simp
      first | exact ⟨_, rfl, ⟨_, rfl, oneV_new W x⟩, (Below.refl _ W).alloc (Nat.le_refl _) _⟩ | exact ⟨⟨_, rfl, oneV_new W x⟩, (Below.refl _ W).alloc (Nat.le_refl _) _⟩
  · intro u W hW hd
    have d1 : RW g cp w.heap.size x xs 1 (u 1) W := hd 1 (by decide)
    have d3 : RW g cp w.heap.size x xs 3 (u 3) W := hd 3 (by decide)
    obtain ⟨g1, c1, e1, hg1, hb1⟩ := d1
    obtain ⟨g3, e3, hr3⟩ := d3
    have HR : Hid (W.ownsRow w.heap.size 37 4 (.slice (some ⟨g1, 0, none⟩) 6 c1) 6 (flat xs)) := Lib.hid (by have := hb1.rowAt hg1; rw [HL.out] at this; exact this)
    have HG := Lib.hid hr3
    have HW := Lib.hid hW
    have hsz := hW.size
    clear hd hr3 hW hb1 hg1 a0 a1 a2 a3
    simp only [List.drop_succ_cons, List.drop_zero]
    go_wp2_with (at_builtin; refine wpList_append_lies _ rfl _ _ 29 rfl w.heap.size 37 is zVar 4 48 Tryz.underlying29 his hs0 hs1 hs2 rfl (by decide) (.slice (some ⟨g1, 0, none⟩) 6 c1) 6 (flat xs) (by exact e1) HR.out ⟨g3, 0, none⟩ 1 1 (flat [x]) (by exact e3) rfl HG.out (flat_one _) (by decide) (by unfold maxLen; omega) (by omega) (by omega) _ rfl ?_; intro g' cap w1 hown hgr1 hat hlt; have HOwn := Lib.hid hown; have HGr := Lib.hid hgr1; clear hown hgr1 hat)
    refine HQ.out _ _ _ _ _ _ g' cap ?_ (HW.out.grown HGr.out (by omega) (fun k hk => (HR.out.lt k hk).1))
    have h2 : flat (xs ++ [x]) = flat xs ++ flat [x] := by simp [flat]
    have h1 := HOwn.out
    rw [← h2] at h1
    exact (blk_of h1).2.2
end Go.Proofs.YtaognphegancbaaGreatDoor
