/- vars: VarsLast's region that makes the value of a step. -/
import Derived.Test.YtaognphegancbaaGreatDoorVY
namespace Go.Proofs.YtaognphegancbaaGreatDoor
set_option linter.unusedVariables false
set_option linter.unusedSimpArgs false
open Go.RowKit Go.Maps Go.WideMaps
open Fl (nanB canon qnan sg rg negW)
def vT (n : Bool) (t : ByteArray) : ByteArray := if n then ⟨#[]⟩ else t.extract 0 (min t.size 512)
def vF (n : Bool) (b : Nat) : Nat := if n then canon b else 0
theorem value_calls (k : Int) (b : Nat) (t : ByteArray) (n : Bool) (w : World) (ht : t.size ≤ 9223372036854775807) :
    Calls Tryz.prog 9 #[.agg #[.int .u8 k, .int .u64 (b : Int), .string t], .bool n] w fun e w' => e = .returned (.agg #[.bool n, .string (vT n t), .float .f64 (vF n b)]) ∧ Below w.heap.size w w' := by
  cases n
  · exact value_text k b t w ht
  · exact value_num k b t w
def RL (g cp i n0 : Nat) (k0 : Int) (b : Nat) (t : ByteArray) (x : VarD) (k : Nat) (v : Value) (W : World) : Prop :=
  match k with
  | 0 => v = .agg #[.int .u8 k0, .int .u64 (b : Int), .string t]
  | 1 => v = .slice (some ⟨g, 0, none⟩) 6 cp
  | 2 => v = .int .i64 i
  | 3 => v = .pointer (some ⟨g, i * 4, none⟩)
  | 4 => v = .pointer (some ⟨g, i * 4 + 1, none⟩)
  | 5 => v = .pointer (some ⟨g, i * 4 + 1, none⟩)
  | 6 => v = .bool x.num
  | 7 => v = .agg #[.bool x.num, .string (vT x.num t), .float .f64 (vF x.num b)]
  | 8 => ∃ vb, v = .pointer (some ⟨vb, 0, none⟩) ∧ n0 ≤ vb ∧ W.heap[vb]? = some (.cells #[.bool false, .string ⟨#[]⟩, .float .f64 0] 35 (0, 0))
  | _ => False
theorem RL_mono (g cp i n0 : Nat) (k0 : Int) (b : Nat) (t : ByteArray) (x : VarD) : ∀ k v W W', RL g cp i n0 k0 b t x k v W → Below W.heap.size W W' → RL g cp i n0 k0 b t x k v W' := by
  intro k v W W' h hb
  unfold RL at h ⊢
  split at h <;> first | (obtain ⟨f, h1, h2, h3⟩ := h; exact ⟨f, h1, h2, (hb.block f (Array.getElem?_eq_some_iff.1 h3).1).trans h3⟩) | exact h
noncomputable def regL11 : Code := ((Tryz.f3.body.bind (findRegion 11)).getD .skip)
set_option maxRecDepth 100000 in
set_option maxHeartbeats 4000000 in
theorem rL11 (g cp i Ab : Nat) (k0 : Int) (b : Nat) (t : ByteArray) (x : VarD) (w : World) (p0 p1 p2 p3 p4 p5 p7 p8 p9 p12 p13 p14 p15 p16 p17 p18 p19 p20 p21 p22 p23 p24 p25 p26 p27 p28 p29 p30 p31 p32 p33 p34 p35 p36 p37 p38 p39 p40 p41 p42 p43 p44 p45 p46 p47 p48 p49 p50 p51 p52 p53 p54 p55 p56 p57 p58 p59 p60 p61 p62 p63 p64 p65 p66 p67 p68 p69 p70 p71 p72 p73 p74 p75 p76 p77 p78 p79 p80 p81 p82 p83 p84 p85 p86 p87 p88 p89 p90 p91 p92 p93 p94 p95 p96 p97 p98 p99 p100 p101 p102 p103 p104 p105 p106 p107 p108 p109 p110 p111 p112 p113 p114 p115 p116 p117 p118 p119 p120 p121 p122 p123 p124 p125 p126 p127 p128 p129 p130 p131 p132 p133 p134 p135 p136 p137 p138 p139 p140 p141 p142 p143 p144 p145 p146 p147 p148 p149 p150 p151 p152 p153 p154 p155 : Value) (K0 : Act → World → Prop)
    (ht : t.size ≤ 9223372036854775807) (hi : i < 6) (a0 : w.cell? ⟨Ab, 0, none⟩ = some (.int .u8 k0)) (a1 : w.cell? ⟨Ab, 1, none⟩ = some (.int .u64 (b : Int))) (a2 : w.cell? ⟨Ab, 2, none⟩ = some (.string t))
    (hx : w.cell? ⟨g, i * 4 + 1, none⟩ = some (.bool x.num))
    (hQ : ∀ (u47 u48 u49 u50 u51 u52 u53 u54 : Value) (w' : World) (VB : Nat), w.heap.size ≤ VB → w'.heap[VB]? = some (.cells #[.bool x.num, .string (vT x.num t), .float .f64 (vF x.num b)] 35 (0, 0)) → Below w.heap.size w w' → K0 ⟨#[p0, p1, p2, p3, p4, p5, .slice (some ⟨g, 0, none⟩) 6 cp, p7, p8, p9, .pointer (some ⟨Ab, 0, none⟩), .int .i64 i, .pointer (some ⟨VB, 0, none⟩), p13, p14, p15, p16, p17, p18, p19, p20, p21, p22, p23, p24, p25, p26, p27, p28, p29, p30, p31, p32, p33, p34, p35, p36, p37, p38, p39, p40, p41, p42, p43, p44, p45, p46, u47, u48, u49, u50, u51, u52, u53, u54, p55, p56, p57, p58, p59, p60, p61, p62, p63, p64, p65, p66, p67, p68, p69, p70, p71, p72, p73, p74, p75, p76, p77, p78, p79, p80, p81, p82, p83, p84, p85, p86, p87, p88, p89, p90, p91, p92, p93, p94, p95, p96, p97, p98, p99, p100, p101, p102, p103, p104, p105, p106, p107, p108, p109, p110, p111, p112, p113, p114, p115, p116, p117, p118, p119, p120, p121, p122, p123, p124, p125, p126, p127, p128, p129, p130, p131, p132, p133, p134, p135, p136, p137, p138, p139, p140, p141, p142, p143, p144, p145, p146, p147, p148, p149, p150, p151, p152, p153, p154, p155], []⟩ w') :
    regL11.wp Tryz.prog (Exit.then K0 fun _ _ _ => False) ⟨#[p0, p1, p2, p3, p4, p5, .slice (some ⟨g, 0, none⟩) 6 cp, p7, p8, p9, .pointer (some ⟨Ab, 0, none⟩), .int .i64 i, p12, p13, p14, p15, p16, p17, p18, p19, p20, p21, p22, p23, p24, p25, p26, p27, p28, p29, p30, p31, p32, p33, p34, p35, p36, p37, p38, p39, p40, p41, p42, p43, p44, p45, p46, p47, p48, p49, p50, p51, p52, p53, p54, p55, p56, p57, p58, p59, p60, p61, p62, p63, p64, p65, p66, p67, p68, p69, p70, p71, p72, p73, p74, p75, p76, p77, p78, p79, p80, p81, p82, p83, p84, p85, p86, p87, p88, p89, p90, p91, p92, p93, p94, p95, p96, p97, p98, p99, p100, p101, p102, p103, p104, p105, p106, p107, p108, p109, p110, p111, p112, p113, p114, p115, p116, p117, p118, p119, p120, p121, p122, p123, p124, p125, p126, p127, p128, p129, p130, p131, p132, p133, p134, p135, p136, p137, p138, p139, p140, p141, p142, p143, p144, p145, p146, p147, p148, p149, p150, p151, p152, p153, p154, p155], []⟩ w := by
  conv => arg 2; whnf
  have HQ := Lib.hid hQ
  clear hQ
  have hi0 : (0 : Int) ≤ (i : Int) := by omega
  have hi6 : (i : Int) < 6 := by omega
  refine region_ssa' 9 (by kernel_rfl) (by kernel_rfl) (fun u => ⟨#[p0, p1, p2, p3, p4, p5, .slice (some ⟨g, 0, none⟩) 6 cp, p7, p8, p9, .pointer (some ⟨Ab, 0, none⟩), .int .i64 i, u 8, p13, p14, p15, p16, p17, p18, p19, p20, p21, p22, p23, p24, p25, p26, p27, p28, p29, p30, p31, p32, p33, p34, p35, p36, p37, p38, p39, p40, p41, p42, p43, p44, p45, p46, u 0, u 1, u 2, u 3, u 4, u 5, u 6, u 7, p55, p56, p57, p58, p59, p60, p61, p62, p63, p64, p65, p66, p67, p68, p69, p70, p71, p72, p73, p74, p75, p76, p77, p78, p79, p80, p81, p82, p83, p84, p85, p86, p87, p88, p89, p90, p91, p92, p93, p94, p95, p96, p97, p98, p99, p100, p101, p102, p103, p104, p105, p106, p107, p108, p109, p110, p111, p112, p113, p114, p115, p116, p117, p118, p119, p120, p121, p122, p123, p124, p125, p126, p127, p128, p129, p130, p131, p132, p133, p134, p135, p136, p137, p138, p139, p140, p141, p142, p143, p144, p145, p146, p147, p148, p149, p150, p151, p152, p153, p154, p155], []⟩) (fun k => (#[p47, p48, p49, p50, p51, p52, p53, p54, p12] : Array Value).getD k undef) rfl ?_ (RL g cp i w.heap.size k0 b t x) (RL_mono _ _ _ _ _ _ _ _) ?_ ?_
  · intro k hk u v
    match k, hk with
    | 0, _ => rfl
    | 1, _ => rfl
    | 2, _ => rfl
    | 3, _ => rfl
    | 4, _ => rfl
    | 5, _ => rfl
    | 6, _ => rfl
    | 7, _ => rfl
    | 8, _ => rfl
  · intro k o hk ho u W hW hd
    have f0 := cell_bel hW a0
    have f1 := cell_bel hW a1
    have f2 := cell_bel hW a2
    have fx := cell_bel hW hx
    match k, hk with
    | 0, _ =>
      cases ho
      go_simp
      first | exact ⟨_, rfl, rfl, Below.refl _ _⟩ | exact ⟨rfl, Below.refl _ _⟩
    | 1, _ =>
      cases ho
      go_simp
      first | exact ⟨_, rfl, rfl, Below.refl _ _⟩ | exact ⟨rfl, Below.refl _ _⟩
    | 2, _ =>
      cases ho
      go_simp
      first | exact ⟨_, rfl, rfl, Below.refl _ _⟩ | exact ⟨rfl, Below.refl _ _⟩
    | 3, _ =>
      cases ho
      have d1 : RL g cp i w.heap.size k0 b t x 1 (u 1) W := hd 1 (by kernel_rfl)
      simp only [RL] at d1
      have d2 : RL g cp i w.heap.size k0 b t x 2 (u 2) W := hd 2 (by kernel_rfl)
      simp only [RL] at d2
      go_simp
      first | exact ⟨_, rfl, rfl, Below.refl _ _⟩ | exact ⟨rfl, Below.refl _ _⟩
    | 4, _ =>
      cases ho
      have d3 : RL g cp i w.heap.size k0 b t x 3 (u 3) W := hd 3 (by kernel_rfl)
      simp only [RL] at d3
      go_simp
      first | exact ⟨_, rfl, rfl, Below.refl _ _⟩ | exact ⟨rfl, Below.refl _ _⟩
    | 5, _ =>
      cases ho
      have d4 : RL g cp i w.heap.size k0 b t x 4 (u 4) W := hd 4 (by kernel_rfl)
      simp only [RL] at d4
      go_simp
      first | exact ⟨_, rfl, rfl, Below.refl _ _⟩ | exact ⟨rfl, Below.refl _ _⟩
    | 6, _ =>
      cases ho
      have d5 : RL g cp i w.heap.size k0 b t x 5 (u 5) W := hd 5 (by kernel_rfl)
      simp only [RL] at d5
      go_simp
      first | exact ⟨_, rfl, rfl, Below.refl _ _⟩ | exact ⟨rfl, Below.refl _ _⟩
    | 7, _ =>
      cases ho
      have d0 : RL g cp i w.heap.size k0 b t x 0 (u 0) W := hd 0 (by kernel_rfl)
      simp only [RL] at d0
      have d6 : RL g cp i w.heap.size k0 b t x 6 (u 6) W := hd 6 (by kernel_rfl)
      simp only [RL] at d6
      go_simp
      refine (value_calls k0 b t x.num W ht).mono ?_
      rintro e w1 ⟨rfl, hb1⟩
      first | exact ⟨_, rfl, rfl, hb1⟩ | exact ⟨rfl, hb1⟩
    | 8, _ =>
      cases ho
      go_simp
      exact ⟨⟨W.heap.size, rfl, hW.size, heap_alloc_new W _⟩, (Below.refl _ W).alloc (Nat.le_refl _) _⟩
  · intro u W hW hd
    have d7 : RL g cp i w.heap.size k0 b t x 7 (u 7) W := hd 7 (by decide)
    have d8 : RL g cp i w.heap.size k0 b t x 8 (u 8) W := hd 8 (by decide)
    simp only [RL] at d7
    obtain ⟨vb, h8, hn, hv⟩ := d8
    have q0 : W.cell? ⟨vb, 0, none⟩ = some (.bool false) := by simpa using cell_of_row W vb 0 _ _ _ hv
    have q1 : W.cell? ⟨vb, 1, none⟩ = some (.string ⟨#[]⟩) := by simpa using cell_of_row W vb 1 _ _ _ hv
    have q2 : W.cell? ⟨vb, 2, none⟩ = some (.float .f64 0) := by simpa using cell_of_row W vb 2 _ _ _ hv
    have z0 := frozen_of_row W vb 0 _ _ hv
    have z1 := frozen_of_row W vb 1 _ _ hv
    have z2 := frozen_of_row W vb 2 _ _ hv
    have HV := Lib.hid hv
    have HW := Lib.hid hW
    clear hd hv hW
    simp only [List.drop_succ_cons, List.drop_zero]
    go_wp2
    have G := grown3 W vb (.bool x.num) (.string (vT x.num t)) (.float .f64 (vF x.num b))
    exact HQ.out _ _ _ _ _ _ _ _ _ vb hn (set3 HV.out) (HW.out.grown G HW.out.size (fun j hj => by cases hj; exact hn))
end Go.Proofs.YtaognphegancbaaGreatDoor
