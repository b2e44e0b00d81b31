/- vars: VarsLast's inner loop. -/
import Derived.Test.YtaognphegancbaaGreatDoorWA
namespace Go.Proofs.YtaognphegancbaaGreatDoor
set_option linter.unusedVariables false
set_option linter.unusedSimpArgs false
open Go.RowKit Go.Maps Go.WideMaps
def findBlock (n : Nat) : Code → Option Code
  | .block id c => if id = n then some (.block id c) else findBlock n c
  | .seq a b => match findBlock n a with
    | some c => some c
    | none => findBlock n b
  | .loop c => findBlock n c
  | .scope c => findBlock n c
  | .cond _ a b => match findBlock n a with
    | some c => some c
    | none => findBlock n b
  | _ => none
/-- The names gathered so far. -/
def ChSt (wr : World) (n0 : Nat) (v : Value) (l : List ByteArray) : Prop := wr.ownsRow n0 9 1 v l.length (l.map Value.string) ∧ (v = .slice none 0 0 ↔ l = [])
noncomputable def blkL2 : Code := match ((Tryz.f3.body.bind (findBlock 2)).getD .skip) with | .block _ c => c | c => c
theorem wp_in {P : Program} {n : Nat} {c : Code} {K : Act → World → Prop} {Q : Exit → Act → World → Prop} {a : Act} {w : World} (h : c.wp P (Exit.inBlock n (Exit.then K fun _ _ _ => False)) a w) : c.wp P (Exit.inBlock n (Exit.then K Q)) a w :=
  Code.wp_mono (fun e a w h => by cases e <;> simp only [Exit.inBlock, Exit.then] at h ⊢ <;> (try split at h) <;> (try split) <;> simp_all) h
set_option maxRecDepth 100000 in
set_option maxHeartbeats 4000000 in
theorem bL2 (S BM L F cl cf g cp gn cn gf c8 : Nat) (cur xs : List VarD) (w : World) (p0 p1 p2 p3 p4 p7 p9 p10 p11 p12 p15 p16 p17 p18 p19 p20 p21 p22 p23 p24 p25 p26 p27 p28 p29 p30 p31 p32 p33 p34 p35 p36 p37 p38 p39 p40 p41 p42 p43 p44 p45 p46 p47 p48 p49 p50 p51 p52 p53 p54 p55 p56 p57 p58 p59 p60 p61 p62 p63 p64 p65 p66 p67 p68 p69 p70 p71 p72 p73 p74 p75 p79 p80 p81 p82 p83 p84 p85 p86 p87 p88 p89 p90 p91 p92 p93 p94 p95 p96 p97 p98 p99 p100 p101 p102 p103 p104 p105 p106 p107 p108 p109 p110 p111 p112 p113 p114 p115 p116 p117 p118 p119 p120 p121 p122 p123 p124 p125 p126 p127 p128 p129 p130 p131 p132 p133 p134 p135 p136 p137 p138 p139 p140 p141 p142 p143 p144 p145 p146 p147 p148 p149 p150 p151 p152 p153 p154 p155 : Value) (K0 : Act → World → Prop)
    (HST : Hid (IsStore w S BM L F cl cf cur xs)) (HN : Hid (Named cur)) (HLC : Hid (cur.length = 6)) (HLX : Hid (xs.length = 6)) (HG : Hid (Blk w g cp cur)) (HGN : Hid (Blk w gn cn cur)) (HGF : Hid (Blk w gf c8 xs))
    (hQ : ∀ (u4 u15 u16 u17 u18 u78 u79 u80 u81 u82 u83 u84 u85 u86 u87 u88 u89 u90 u91 u92 u93 u94 u95 u96 u97 u98 u99 u100 u101 u102 u103 u104 u105 u106 u107 u108 u109 u110 u111 u112 u113 u114 u115 u116 u117 u118 u119 u120 u121 u122 u123 u124 u125 u126 u127 u128 u129 u130 u131 u132 u133 u134 v : Value) (w' : World), ChSt w' w.heap.size v (chg (cur.zip xs)) → Below w.heap.size w w' → K0 ⟨#[p0, p1, p2, p3, u4, .pointer (some ⟨S, 0, none⟩), .slice (some ⟨g, 0, none⟩) 6 cp, p7, .slice (some ⟨gf, 0, none⟩) 6 c8, p9, p10, p11, p12, .slice (some ⟨gn, 0, none⟩) 6 cn, v, u15, u16, u17, u18, p19, p20, p21, p22, p23, p24, p25, p26, p27, p28, p29, p30, p31, p32, p33, p34, p35, p36, p37, p38, p39, p40, p41, p42, p43, p44, p45, p46, p47, p48, p49, p50, p51, p52, p53, p54, p55, p56, p57, p58, p59, p60, p61, p62, p63, p64, p65, p66, p67, p68, p69, p70, p71, p72, p73, p74, p75, .slice (some ⟨g, 0, none⟩) 6 cp, .int .i64 6, u78, u79, u80, u81, u82, u83, u84, u85, u86, u87, u88, u89, u90, u91, u92, u93, u94, u95, u96, u97, u98, u99, u100, u101, u102, u103, u104, u105, u106, u107, u108, u109, u110, u111, u112, u113, u114, u115, u116, u117, u118, u119, u120, u121, u122, u123, u124, u125, u126, u127, u128, u129, u130, u131, u132, u133, u134, p135, p136, p137, p138, p139, p140, p141, p142, p143, p144, p145, p146, p147, p148, p149, p150, p151, p152, p153, p154, p155], []⟩ w') :
    blkL2.wp Tryz.prog (Exit.inBlock 2 (Exit.then K0 fun _ _ _ => False)) ⟨#[p0, p1, p2, p3, p4, .pointer (some ⟨S, 0, none⟩), .slice (some ⟨g, 0, none⟩) 6 cp, p7, .slice (some ⟨gf, 0, none⟩) 6 c8, p9, p10, p11, p12, .slice (some ⟨gn, 0, none⟩) 6 cn, .slice none 0 0, p15, p16, p17, p18, p19, p20, p21, p22, p23, p24, p25, p26, p27, p28, p29, p30, p31, p32, p33, p34, p35, p36, p37, p38, p39, p40, p41, p42, p43, p44, p45, p46, p47, p48, p49, p50, p51, p52, p53, p54, p55, p56, p57, p58, p59, p60, p61, p62, p63, p64, p65, p66, p67, p68, p69, p70, p71, p72, p73, p74, p75, .slice (some ⟨g, 0, none⟩) 6 cp, .int .i64 6, .int .i64 0, p79, p80, p81, p82, p83, p84, p85, p86, p87, p88, p89, p90, p91, p92, p93, p94, p95, p96, p97, p98, p99, p100, p101, p102, p103, p104, p105, p106, p107, p108, p109, p110, p111, p112, p113, p114, p115, p116, p117, p118, p119, p120, p121, p122, p123, p124, p125, p126, p127, p128, p129, p130, p131, p132, p133, p134, p135, p136, p137, p138, p139, p140, p141, p142, p143, p144, p145, p146, p147, p148, p149, p150, p151, p152, p153, p154, p155], []⟩ w := by
  conv => arg 2; whnf
  have HQ := Lib.hid hQ
  clear hQ
  obtain ⟨i0, hi, hz0, hz1, hz2⟩ := info_parts str_info
  have HI := Lib.hid hi
  have H0 := Lib.hid hz0
  have H1 := Lib.hid hz1
  have H2 := Lib.hid hz2
  clear hi hz0 hz1 hz2
  dsimp only
  go_loopw [14, 78] (fun ch vi wr => ∃ k : Nat, k ≤ 6 ∧ vi = .int .i64 k ∧ ChSt wr w.heap.size ch (chg ((cur.take k).zip (xs.take k))) ∧ Below w.heap.size w wr) (fun _ vi _ => 6 - (intOf vi).toNat)
  case atStart => exact ⟨0, by omega, rfl, ⟨World.ownsRow_nil _ _ _ _, by simp [chg]⟩, Below.refl _ _⟩
  case round =>
    obtain ⟨k, hk, rfl, hch, hbr⟩ := hrel
    have HC := Lib.hid hch
    have HW := Lib.hid hbr
    have hws := hbr.size
    clear hch hbr
    by_cases hlt : k < 6
    · obtain ⟨x, hx⟩ : ∃ x, cur[k]? = some x := ⟨_, List.getElem?_eq_getElem (by have := HLC.out; omega)⟩
      obtain ⟨y, hy⟩ : ∃ y, xs[k]? = some y := ⟨_, List.getElem?_eq_getElem (by have := HLX.out; omega)⟩
      have HX := Lib.hid hx
      have HY := Lib.hid hy
      have HZ := Lib.hid (zip_take hx hy)
      have HGr := Lib.hid (HG.out.bel HW.out)
      obtain ⟨a0, a1, a2, a3⟩ := HGr.out.at4 x hx
      have hgl := HGr.out.lt
      clear hx hy
      go_wp2_with fail
      refine (get_store (HST.out.bel (HW.out.alloc hws (.cells #[.string x.name, .bool x.num, .string x.text, .float .f64 x.flt] 37))) HN.out k x HX.out).mono ?_
      rintro e w1 ⟨rfl, hb1⟩
      have hs1 : wr.heap.size + 1 ≤ w1.heap.size := by have := hb1.size; simpa using this
      have HB1 := Lib.hid (((Below.refl wr.heap.size wr).alloc (Nat.le_refl _) (.cells #[.string x.name, .bool x.num, .string x.text, .float .f64 x.flt] 37)).trans (hb1.mono (by simp)))
      have y0 : w1.cell? ⟨wr.heap.size, 0, none⟩ = some (.string x.name) := cell_bel hb1 (by exact World.cell?_alloc_new _ _ _ _)
      have y1 : w1.cell? ⟨wr.heap.size, 1, none⟩ = some (.bool x.num) := cell_bel hb1 (by exact World.cell?_alloc_new _ _ _ _)
      have y2 : w1.cell? ⟨wr.heap.size, 2, none⟩ = some (.string x.text) := cell_bel hb1 (by exact World.cell?_alloc_new _ _ _ _)
      have y3 : w1.cell? ⟨wr.heap.size, 3, none⟩ = some (.float .f64 x.flt) := cell_bel hb1 (by exact World.cell?_alloc_new _ _ _ _)
      clear hb1 a0 a1 a2 a3
      go_wp2_with fail
      have A2 := fun (o : Obj) => (HW.out.trans (HB1.out.mono hws)).alloc (show w.heap.size ≤ w1.heap.size by omega) o
      have N2 := fun (o : Obj) => (HGN.out.bel (A2 o)).at4 x HX.out
      have F2 := fun (o : Obj) => (HGF.out.bel (A2 o)).at4 y HY.out
      refine wp_normal (rL23 gn cn k wr.heap.size w1.heap.size x _ _ _ _ _ _ _ _ _ _ _ _ _ _ _ _ _ _ _ _ _ _ _ _ _ _ _ _ _ _ _ _ _ _ _ _ _ _ _ _ _ _ _ _ _ _ _ _ _ _ _ _ _ _ _ _ _ _ _ _ _ _ _ _ _ _ _ _ _ _ _ _ _ _ _ _ _ _ _ _ _ _ _ _ _ _ _ _ _ _ _ _ _ _ _ _ _ _ _ _ _ _ _ _ _ _ _ _ _ _ _ _ _ _ _ _ _ _ _ _ _ _ _ _ _ _ _ _ _ _ _ _ _ _ _ _ _ _ _ _ _ _ _ _ _ _ _ _ _ _ _ _ _ hlt (cell_al y0 _) (cell_al y1 _) (cell_al y2 _) (cell_al y3 _) (by exact World.cell?_alloc_new _ _ _ _) (by exact World.cell?_alloc_new _ _ _ _) (by exact World.cell?_alloc_new _ _ _ _) (N2 _).1 (N2 _).2.1 (N2 _).2.2.1 (N2 _).2.2.2 ?_)
      intro _ _ _ _ _ _ _ _ _ _ _ _ _ _ _ _ _ _ _ _ _ _ _ _ _ _ _ _ _ w2 hb2
      have B2 := fun (o : Obj) => (Below.refl w1.heap.size w1).alloc (Nat.le_refl _) o
      have z0 := cell_bel hb2 (cell_al y0 _)
      have z1 := cell_bel hb2 (cell_al y1 _)
      have z2 := cell_bel hb2 (cell_al y2 _)
      have z3 := cell_bel hb2 (cell_al y3 _)
      have HB2 := Lib.hid (HB1.out.trans (((B2 _).trans (hb2.mono (by simp))).mono (by omega)))
      have F3 := (HGF.out.bel (HW.out.trans (HB2.out.mono hws))).at4 y HY.out
      clear hb2 B2 A2 N2 F2 y0 y1 y2 y3
      go_wp2_with fail
      obtain ⟨f0, f1, f2, f3⟩ := F3
      refine wp_normal (rL25 gf c8 k wr.heap.size x y (sameV x y) w2 _ _ _ _ _ _ _ _ _ _ _ _ _ _ _ _ _ _ _ _ _ _ _ _ _ _ _ _ _ _ _ _ _ _ _ _ _ _ _ _ _ _ _ _ _ _ _ _ _ _ _ _ _ _ _ _ _ _ _ _ _ _ _ _ _ _ _ _ _ _ _ _ _ _ _ _ _ _ _ _ _ _ _ _ _ _ _ _ _ _ _ _ _ _ _ _ _ _ _ _ _ _ _ _ _ _ _ _ _ _ _ _ _ _ _ _ _ _ _ _ _ _ _ _ _ _ _ _ _ _ _ _ _ _ _ _ _ _ _ _ _ _ _ _ _ _ _ _ _ _ _ _ _ _ hlt (Lib.hid (sameB_comm _ _ _ _ _ _)) z1 z2 z3 f1 f2 f3 ?_)
      intro _ _ _ _ _ _ _ _ w3 hb3
      have x0 := cell_bel hb3 z0
      have HB3 := Lib.hid (HB2.out.trans (hb3.mono HB2.out.size))
      have hs3 := HB3.out.size
      clear hb3 z0 z1 z2 z3 f0 f1 f2 f3 HB2
      cases hv : sameV x y with
      | true =>
        have HNw := Lib.hid (show chg ((cur.take (k + 1)).zip (xs.take (k + 1))) = chg ((cur.take k).zip (xs.take k)) by rw [HZ.out, chg_snoc, hv]; simp)
        clear hv
        go_wp2_with fail
        go_roundw
        case rel => exact ⟨k + 1, by omega, by go_num, by rw [HNw.out]; exact ⟨row_bel HC.out.1 HB3.out, HC.out.2⟩, HW.out.trans (HB3.out.mono hws)⟩
        case measure => simp [intOf]; omega
      | false =>
        have HNw := Lib.hid (show chg ((cur.take (k + 1)).zip (xs.take (k + 1))) = chg ((cur.take k).zip (xs.take k)) ++ [x.name] by rw [HZ.out, chg_snoc, hv]; simp)
        have hlen : (chg ((cur.take k).zip (xs.take k))).length ≤ 6 := by
          have h1 := chg_len ((cur.take k).zip (xs.take k))
          rw [List.length_zip, List.length_take] at h1
          omega
        clear hv
        go_wp2_with (at_builtin; refine wpList_append_own_at _ rfl _ _ 45 rfl w.heap.size 9 i0 (.string ⟨#[]⟩) 1 16 Tryz.underlying45 HI.out H0.out H1.out H2.out rfl (by decide) _ _ _ rfl ((row_bel HC.out.1 HB3.out).alloc _) ⟨w3.heap.size, 0, none⟩ 1 1 [.string x.name] rfl rfl (cell_one_new _ _ _) (by simp [Value.oneCell']) (by unfold maxLen; omega) (by omega) (by simp; omega) ?_; intro v' w4 hown' hgrow hnil _)
        exact ⟨⟨k + 1, by omega, by go_num, ⟨by rw [HNw.out, List.length_append, List.map_append]; exact hown', by rw [HNw.out, hnil]; simp⟩, ((HW.out.trans (HB3.out.mono hws)).alloc (by omega) _).grown hgrow (by simp; omega) (fun j hj => (HC.out.1.lt j hj).1)⟩, by simp [intOf]; omega⟩
    · obtain rfl : k = 6 := by omega
      have ht1 : cur.take 6 = cur := List.take_of_length_le (by have := HLC.out; omega)
      have ht2 : xs.take 6 = xs := List.take_of_length_le (by have := HLX.out; omega)
      have HC2 := Lib.hid (by have := HC.out; rw [ht1, ht2] at this; exact this)
      clear ht1 ht2
      go_wp2_with fail
      exact HQ.out _ _ _ _ _ _ _ _ _ _ _ _ _ _ _ _ _ _ _ _ _ _ _ _ _ _ _ _ _ _ _ _ _ _ _ _ _ _ _ _ _ _ _ _ _ _ _ _ _ _ _ _ _ _ _ _ _ _ _ _ _ _ _ _ HC2.out HW.out
end Go.Proofs.YtaognphegancbaaGreatDoor
