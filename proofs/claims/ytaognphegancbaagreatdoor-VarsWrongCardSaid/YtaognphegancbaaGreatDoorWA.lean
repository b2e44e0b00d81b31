/- vars: VarsLast's regions that compare values. -/
import Derived.Test.YtaognphegancbaaGreatDoorVZ
namespace Go.Proofs.YtaognphegancbaaGreatDoor
set_option linter.unusedVariables false
set_option linter.unusedSimpArgs false
open Go.RowKit Go.Maps Go.WideMaps
theorem sameB_refl (n : Bool) (t : ByteArray) (x : Nat) : sameB n t x n t x = true := by simp [sameB]
theorem sameB_comm (n1 n2 : Bool) (t1 t2 : ByteArray) (x1 x2 : Nat) : sameB n1 t1 x1 n2 t2 x2 = sameB n2 t2 x2 n1 t1 x1 := by
  unfold sameB
  rw [Bool.eq_iff_iff]
  simp only [Bool.and_eq_true, beq_iff_eq]
  constructor <;> rintro ⟨⟨h1, h2⟩, h3⟩ <;> exact ⟨⟨h1.symm, h2.symm⟩, h3.symm⟩
noncomputable def regL23 : Code := ((Tryz.f3.body.bind (findRegion 23)).getD .skip)
noncomputable def regL25 : Code := ((Tryz.f3.body.bind (findRegion 25)).getD .skip)
set_option maxRecDepth 100000 in
set_option maxHeartbeats 4000000 in
theorem rL25 (gf cf8 k YB : Nat) (x y : VarD) (sb : Bool) (w : World) (p0 p1 p2 p3 p4 p5 p6 p7 p9 p10 p11 p12 p13 p14 p17 p18 p19 p20 p21 p22 p23 p24 p25 p26 p27 p28 p29 p30 p31 p32 p33 p34 p35 p36 p37 p38 p39 p40 p41 p42 p43 p44 p45 p46 p47 p48 p49 p50 p51 p52 p53 p54 p55 p56 p57 p58 p59 p60 p61 p62 p63 p64 p65 p66 p67 p68 p69 p70 p71 p72 p73 p74 p75 p76 p77 p78 p79 p80 p81 p82 p83 p84 p85 p86 p87 p88 p89 p90 p91 p92 p93 p94 p95 p96 p97 p98 p99 p100 p101 p102 p103 p104 p105 p106 p107 p108 p109 p110 p111 p112 p113 p114 p115 p116 p117 p118 p119 p120 p121 p122 p123 p124 p125 p126 p127 p128 p129 p130 p131 p132 p133 p134 p135 p136 p137 p138 p139 p140 p141 p142 p143 p144 p145 p146 p147 p148 p149 p150 p151 p152 p153 p154 p155 : Value) (K0 : Act → World → Prop) (hk : k < 6) (hsb : Hid (sameB y.num y.text y.flt x.num x.text x.flt = sb))
    (b1 : w.cell? ⟨YB, 1, none⟩ = some (.bool x.num)) (b2 : w.cell? ⟨YB, 2, none⟩ = some (.string x.text)) (b3 : w.cell? ⟨YB, 3, none⟩ = some (.float .f64 x.flt))
    (d1 : w.cell? ⟨gf, k * 4 + 1, none⟩ = some (.bool y.num)) (d2 : w.cell? ⟨gf, k * 4 + 2, none⟩ = some (.string y.text)) (d3 : w.cell? ⟨gf, k * 4 + 3, none⟩ = some (.float .f64 y.flt))
    (hQ : ∀ (u120 u121 u122 u123 u124 u125 u126 u127 : Value) (w' : World), Below w.heap.size w w' → K0 ⟨#[p0, p1, p2, p3, p4, p5, p6, p7, .slice (some ⟨gf, 0, none⟩) 6 cf8, p9, p10, p11, p12, p13, p14, .int .i64 k, .pointer (some ⟨YB, 0, none⟩), p17, p18, p19, p20, p21, p22, p23, p24, p25, p26, p27, p28, p29, p30, p31, p32, p33, p34, p35, p36, p37, p38, p39, p40, p41, p42, p43, p44, p45, p46, p47, p48, p49, p50, p51, p52, p53, p54, p55, p56, p57, p58, p59, p60, p61, p62, p63, p64, p65, p66, p67, p68, p69, p70, p71, p72, p73, p74, p75, p76, p77, p78, p79, p80, p81, p82, p83, p84, p85, p86, p87, p88, p89, p90, p91, p92, p93, p94, p95, p96, p97, p98, p99, p100, p101, p102, p103, p104, p105, p106, p107, p108, p109, p110, p111, p112, p113, p114, p115, p116, p117, p118, p119, u120, u121, u122, u123, u124, u125, u126, u127, .bool (!sb), p129, p130, p131, p132, p133, p134, p135, p136, p137, p138, p139, p140, p141, p142, p143, p144, p145, p146, p147, p148, p149, p150, p151, p152, p153, p154, p155], []⟩ w') :
    regL25.wp Tryz.prog (Exit.then K0 fun _ _ _ => False) ⟨#[p0, p1, p2, p3, p4, p5, p6, p7, .slice (some ⟨gf, 0, none⟩) 6 cf8, p9, p10, p11, p12, p13, p14, .int .i64 k, .pointer (some ⟨YB, 0, none⟩), p17, p18, p19, p20, p21, p22, p23, p24, p25, p26, p27, p28, p29, p30, p31, p32, p33, p34, p35, p36, p37, p38, p39, p40, p41, p42, p43, p44, p45, p46, p47, p48, p49, p50, p51, p52, p53, p54, p55, p56, p57, p58, p59, p60, p61, p62, p63, p64, p65, p66, p67, p68, p69, p70, p71, p72, p73, p74, p75, p76, p77, p78, p79, p80, p81, p82, p83, p84, p85, p86, p87, p88, p89, p90, p91, p92, p93, p94, p95, p96, p97, p98, p99, p100, p101, p102, p103, p104, p105, p106, p107, p108, p109, p110, p111, p112, p113, p114, p115, p116, p117, p118, p119, p120, p121, p122, p123, p124, p125, p126, p127, p128, p129, p130, p131, p132, p133, p134, p135, p136, p137, p138, p139, p140, p141, p142, p143, p144, p145, p146, p147, p148, p149, p150, p151, p152, p153, p154, p155], []⟩ w := by
  conv => arg 2; whnf
  have HQ := Lib.hid hQ
  have hk0 : (0 : Int) ≤ (k : Int) := by omega
  have hk6 : (k : Int) < 6 := by omega
  have HV := Lib.hid (fun w => (hsb.out ▸ sameval_calls y.num x.num y.text x.text y.flt x.flt w : Calls Tryz.prog 13 #[.agg #[.bool y.num, .string y.text, .float .f64 y.flt], .agg #[.bool x.num, .string x.text, .float .f64 x.flt]] w fun e w' => e = .returned (.bool sb) ∧ Below w.heap.size w w'))
  have K1 := cell_regrown b1
  have K2 := cell_regrown b2
  have K3 := cell_regrown b3
  have K4 := cell_regrown d1
  have K5 := cell_regrown d2
  have K6 := cell_regrown d3
  have HCS := Lib.hid (fun (w : World) d os => Calls.regrown_of (w := w) (d := d) (os := os) (HV.out _))
  clear hQ hsb HV
  refine wp_region_quiet_below (by kernel_rfl) (by kernel_rfl) ?_
  repeat (quiet_step (exact HCS.out _ _ _))
  refine wpQuiet_nil ?_
  intro w5 hw5
  exact HQ.out _ _ _ _ _ _ _ _ _ (by obtain ⟨p, rfl⟩ := hw5; exact below_regrown _ _ _)
set_option maxRecDepth 100000 in
set_option maxHeartbeats 4000000 in
theorem rL23 (gn cn k YB GB : Nat) (x : VarD) (w : World) (p0 p1 p2 p3 p4 p5 p6 p7 p8 p9 p10 p11 p12 p14 p19 p20 p21 p22 p23 p24 p25 p26 p27 p28 p29 p30 p31 p32 p33 p34 p35 p36 p37 p38 p39 p40 p41 p42 p43 p44 p45 p46 p47 p48 p49 p50 p51 p52 p53 p54 p55 p56 p57 p58 p59 p60 p61 p62 p63 p64 p65 p66 p67 p68 p69 p70 p71 p72 p73 p74 p75 p76 p77 p78 p79 p80 p81 p82 p83 p84 p85 p86 p87 p88 p89 p90 p91 p92 p93 p94 p95 p96 p97 p98 p99 p100 p101 p102 p103 p104 p105 p106 p107 p108 p109 p110 p111 p112 p113 p114 p115 p116 p117 p118 p119 p120 p121 p122 p123 p124 p125 p126 p127 p128 p129 p130 p131 p132 p133 p134 p135 p136 p137 p138 p139 p140 p141 p142 p143 p144 p145 p146 p147 p148 p149 p150 p151 p152 p153 p154 p155 : Value) (K0 : Act → World → Prop) (hk : k < 6)
    (b0 : w.cell? ⟨YB, 0, none⟩ = some (.string x.name)) (b1 : w.cell? ⟨YB, 1, none⟩ = some (.bool x.num)) (b2 : w.cell? ⟨YB, 2, none⟩ = some (.string x.text)) (b3 : w.cell? ⟨YB, 3, none⟩ = some (.float .f64 x.flt))
    (c1 : w.cell? ⟨GB, 0, none⟩ = some (.bool x.num)) (c2 : w.cell? ⟨GB, 1, none⟩ = some (.string x.text)) (c3 : w.cell? ⟨GB, 2, none⟩ = some (.float .f64 x.flt))
    (d0 : w.cell? ⟨gn, k * 4, none⟩ = some (.string x.name)) (d1 : w.cell? ⟨gn, k * 4 + 1, none⟩ = some (.bool x.num)) (d2 : w.cell? ⟨gn, k * 4 + 2, none⟩ = some (.string x.text)) (d3 : w.cell? ⟨gn, k * 4 + 3, none⟩ = some (.float .f64 x.flt))
    (hQ : ∀ (u90 u91 u92 u93 u94 u95 u96 u97 u98 u99 u100 u101 u102 u103 u104 u105 u106 u107 u108 u109 u110 u111 u112 u113 u114 u115 u116 u117 u118 : Value) (w' : World), Below w.heap.size w w' → K0 ⟨#[p0, p1, p2, p3, p4, p5, p6, p7, p8, p9, p10, p11, p12, .slice (some ⟨gn, 0, none⟩) 6 cn, p14, .int .i64 k, .pointer (some ⟨YB, 0, none⟩), .pointer (some ⟨GB, 0, none⟩), .bool true, p19, p20, p21, p22, p23, p24, p25, p26, p27, p28, p29, p30, p31, p32, p33, p34, p35, p36, p37, p38, p39, p40, p41, p42, p43, p44, p45, p46, p47, p48, p49, p50, p51, p52, p53, p54, p55, p56, p57, p58, p59, p60, p61, p62, p63, p64, p65, p66, p67, p68, p69, p70, p71, p72, p73, p74, p75, p76, p77, p78, p79, p80, p81, p82, p83, p84, p85, p86, p87, p88, p89, u90, u91, u92, u93, u94, u95, u96, u97, u98, u99, u100, u101, u102, u103, u104, u105, u106, u107, u108, u109, u110, u111, u112, u113, u114, u115, u116, u117, u118, .bool false, p120, p121, p122, p123, p124, p125, p126, p127, p128, p129, p130, p131, p132, p133, p134, p135, p136, p137, p138, p139, p140, p141, p142, p143, p144, p145, p146, p147, p148, p149, p150, p151, p152, p153, p154, p155], []⟩ w') :
    regL23.wp Tryz.prog (Exit.then K0 fun _ _ _ => False) ⟨#[p0, p1, p2, p3, p4, p5, p6, p7, p8, p9, p10, p11, p12, .slice (some ⟨gn, 0, none⟩) 6 cn, p14, .int .i64 k, .pointer (some ⟨YB, 0, none⟩), .pointer (some ⟨GB, 0, none⟩), .bool true, p19, p20, p21, p22, p23, p24, p25, p26, p27, p28, p29, p30, p31, p32, p33, p34, p35, p36, p37, p38, p39, p40, p41, p42, p43, p44, p45, p46, p47, p48, p49, p50, p51, p52, p53, p54, p55, p56, p57, p58, p59, p60, p61, p62, p63, p64, p65, p66, p67, p68, p69, p70, p71, p72, p73, p74, p75, p76, p77, p78, p79, p80, p81, p82, p83, p84, p85, p86, p87, p88, p89, p90, p91, p92, p93, p94, p95, p96, p97, p98, p99, p100, p101, p102, p103, p104, p105, p106, p107, p108, p109, p110, p111, p112, p113, p114, p115, p116, p117, p118, p119, p120, p121, p122, p123, p124, p125, p126, p127, p128, p129, p130, p131, p132, p133, p134, p135, p136, p137, p138, p139, p140, p141, p142, p143, p144, p145, p146, p147, p148, p149, p150, p151, p152, p153, p154, p155], []⟩ w := by
  conv => arg 2; whnf
  have HQ := Lib.hid hQ
  have hk0 : (0 : Int) ≤ (k : Int) := by omega
  have hk6 : (k : Int) < 6 := by omega
  have HV := Lib.hid (fun w => (sameB_refl x.num x.text x.flt ▸ sameval_calls x.num x.num x.text x.text x.flt x.flt w : Calls Tryz.prog 13 #[.agg #[.bool x.num, .string x.text, .float .f64 x.flt], .agg #[.bool x.num, .string x.text, .float .f64 x.flt]] w fun e w' => e = .returned (.bool true) ∧ Below w.heap.size w w'))
  have K0' := cell_regrown b0
  have K1 := cell_regrown b1
  have K2 := cell_regrown b2
  have K3 := cell_regrown b3
  have K4 := cell_regrown c1
  have K5 := cell_regrown c2
  have K6 := cell_regrown c3
  have K7 := cell_regrown d0
  have K8 := cell_regrown d1
  have K9 := cell_regrown d2
  have K10 := cell_regrown d3
  have HCS := Lib.hid (fun (w : World) d os => Calls.regrown_of (w := w) (d := d) (os := os) (HV.out _))
  clear hQ HV
  refine wp_region_quiet_below (by kernel_rfl) (by kernel_rfl) ?_
  repeat (quiet_step (exact HCS.out _ _ _))
  refine wpQuiet_nil ?_
  intro w5 hw5
  exact HQ.out _ _ _ _ _ _ _ _ _ _ _ _ _ _ _ _ _ _ _ _ _ _ _ _ _ _ _ _ _ _ (by obtain ⟨p, rfl⟩ := hw5; exact below_regrown _ _ _)
end Go.Proofs.YtaognphegancbaaGreatDoor
