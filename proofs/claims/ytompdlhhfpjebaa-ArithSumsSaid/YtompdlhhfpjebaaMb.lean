/- Walks of repartee/arith: Sides, Witness. -/
import Derived.Test.YtompdlhhfpjebaaM
import Derived.Deep.QuietTactic
import Derived.BigQuiet
namespace Go.Proofs.Ytompdlhhfpjebaa
set_option linter.unusedVariables false
open Go.RowKit
open Fl (nanB canon qnan sg rg negW)
/-- Both sides of law k + 1, of clean numbers. -/
def sidesF (k x y z : Nat) : Nat × Nat := match k with
  | 0 => (opF 2 x y, opF 2 y x)
  | 1 => (opF 4 x y, opF 4 y x)
  | 2 => (opF 6 x y, opF 6 y x)
  | 3 => (opF 7 x y, opF 7 y x)
  | 4 => (opF 4 x 4607182418800017408, x)
  | 5 => (opF 5 x 4607182418800017408, x)
  | 6 => (opF 3 x 0, x)
  | 7 => (opF 2 x 9223372036854775808, x)
  | 8 => (opF 1 (opF 1 x 0) 0, x)
  | 9 => (opF 3 x y, opF 2 x (opF 1 y 0))
  | 10 => (opF 6 x x, x)
  | 11 => (opF 1 (opF 3 x y) 0, opF 3 y x)
  | 12 => (opF 3 x x, 0)
  | 13 => (opF 4 0 x, 0)
  | 14 => (opF 2 (opF 2 x y) z, opF 2 x (opF 2 y z))
  | 15 => (opF 4 (opF 4 x y) z, opF 4 x (opF 4 y z))
  | 16 => (opF 4 x (opF 2 y z), opF 2 (opF 4 x y) (opF 4 x z))
  | 17 => (opF 3 (opF 2 x y) y, x)
  | 18 => (opF 5 x x, 4607182418800017408)
  | 19 => (opF 2 x 0, x)
  | 20 => (opF 5 (opF 4 x y) y, x)
  | 21 => (opF 6 x 9218868437227405312, x)
  | 22 => (opF 4 x 13830554455654793216, opF 1 x 0)
  | 23 => (opF 5 x y, opF 4 x (opF 5 4607182418800017408 y))
  | _ => (0, 0)
def fidx (k : Nat) : Nat := 55 + k
def capsV (k b : Nat) : Array Value := match k with
  | 0 => #[.pointer (some ⟨b + 1, 0, none⟩)]
  | 1 => #[.pointer (some ⟨b + 3, 0, none⟩)]
  | 2 => #[]
  | 3 => #[]
  | 4 => #[.pointer (some ⟨b + 3, 0, none⟩)]
  | 5 => #[.pointer (some ⟨b + 4, 0, none⟩)]
  | 6 => #[.pointer (some ⟨b + 2, 0, none⟩)]
  | 7 => #[.pointer (some ⟨b + 1, 0, none⟩)]
  | 8 => #[.pointer (some ⟨b + 5, 0, none⟩)]
  | 9 => #[.pointer (some ⟨b + 2, 0, none⟩), .pointer (some ⟨b + 1, 0, none⟩), .pointer (some ⟨b + 5, 0, none⟩)]
  | 10 => #[]
  | 11 => #[.pointer (some ⟨b + 5, 0, none⟩), .pointer (some ⟨b + 2, 0, none⟩)]
  | 12 => #[.pointer (some ⟨b + 2, 0, none⟩)]
  | 13 => #[.pointer (some ⟨b + 3, 0, none⟩)]
  | 14 => #[.pointer (some ⟨b + 1, 0, none⟩)]
  | 15 => #[.pointer (some ⟨b + 3, 0, none⟩)]
  | 16 => #[.pointer (some ⟨b + 3, 0, none⟩), .pointer (some ⟨b + 1, 0, none⟩)]
  | 17 => #[.pointer (some ⟨b + 2, 0, none⟩), .pointer (some ⟨b + 1, 0, none⟩)]
  | 18 => #[.pointer (some ⟨b + 4, 0, none⟩)]
  | 19 => #[.pointer (some ⟨b + 1, 0, none⟩)]
  | 20 => #[.pointer (some ⟨b + 4, 0, none⟩), .pointer (some ⟨b + 3, 0, none⟩)]
  | 21 => #[.pointer (some ⟨b, 0, none⟩)]
  | 22 => #[.pointer (some ⟨b + 3, 0, none⟩), .pointer (some ⟨b + 5, 0, none⟩)]
  | 23 => #[.pointer (some ⟨b + 4, 0, none⟩), .pointer (some ⟨b + 3, 0, none⟩)]
  | _ => #[]
theorem cell_fn (b : Nat) : ∀ k, k < 24 → (lawCells b)[k * 5]? = some (.func (.func (fidx k)) #[] (capsV k b)) :=
  lt24 (p := fun k => (lawCells b)[k * 5]? = some (.func (.func (fidx k)) #[] (capsV k b))) (by refine ⟨?_, ?_, ?_, ?_, ?_, ?_, ?_, ?_, ?_, ?_, ?_, ?_, ?_, ?_, ?_, ?_, ?_, ?_, ?_, ?_, ?_, ?_, ?_, ?_⟩ <;> rfl)
theorem run_fidx : ∀ k, k < 24 → ∀ (args : Array Value) (w : World), (callFunc (fidx k) args).run Try.prog w = .ok (.enter (fidx k) args) w :=
  lt24 (p := fun k => ∀ (args : Array Value) (w : World), (callFunc (fidx k) args).run Try.prog w = .ok (.enter (fidx k) args) w) (by refine ⟨?_, ?_, ?_, ?_, ?_, ?_, ?_, ?_, ?_, ?_, ?_, ?_, ?_, ?_, ?_, ?_, ?_, ?_, ?_, ?_, ?_, ?_, ?_, ?_⟩ <;> (intro args w; kernel_rfl))
theorem call_of {f g : Nat} {a c : Array Value} {w : World} {R S : Ending → World → Prop} (hf : f = g) (ha : a = c) (hR : R = S) (h : Calls Try.prog g c w S) : Calls Try.prog f a w R := by
  subst hf ha hR; exact h
def SideP (b x y z : Nat) (w : World) (k : Nat) : Prop := Calls Try.prog (fidx k) (#[.float .f64 x, .float .f64 y, .float .f64 z] ++ capsV k b) w fun e w' => e = .returned (.tuple #[.float .f64 (sidesF k x y z).1, .float .f64 (sidesF k x y z).2]) ∧ Grown w w'
theorem sc0 (b x y z : Nat) (w : World) (hc0 : w.cell? ⟨b + 1, 0, none⟩ = some (.func (.func 50) #[] #[])) : SideP b x y z w 0 :=
  call_of (show fidx 0 = 55 from rfl) (by simp [capsV]) (show (fun (e : Ending) w' => e = .returned (.tuple #[.float .f64 (sidesF 0 x y z).1, .float .f64 (sidesF 0 x y z).2]) ∧ Grown w w') = _ from rfl) (side0 b x y z w hc0)
theorem sc1 (b x y z : Nat) (w : World) (hc0 : w.cell? ⟨b + 3, 0, none⟩ = some (.func (.func 52) #[] #[])) : SideP b x y z w 1 :=
  call_of (show fidx 1 = 56 from rfl) (by simp [capsV]) (show (fun (e : Ending) w' => e = .returned (.tuple #[.float .f64 (sidesF 1 x y z).1, .float .f64 (sidesF 1 x y z).2]) ∧ Grown w w') = _ from rfl) (side1 b x y z w hc0)
theorem sc2 (b x y z : Nat) (hx : x < 2 ^ 64) (hy : y < 2 ^ 64) (w : World)  : SideP b x y z w 2 :=
  call_of (show fidx 2 = 57 from rfl) (by simp [capsV]) (show (fun (e : Ending) w' => e = .returned (.tuple #[.float .f64 (sidesF 2 x y z).1, .float .f64 (sidesF 2 x y z).2]) ∧ Grown w w') = _ from rfl) (side2 b x y z hx hy w )
theorem sc3 (b x y z : Nat) (hx : x < 2 ^ 64) (hy : y < 2 ^ 64) (w : World)  : SideP b x y z w 3 :=
  call_of (show fidx 3 = 58 from rfl) (by simp [capsV]) (show (fun (e : Ending) w' => e = .returned (.tuple #[.float .f64 (sidesF 3 x y z).1, .float .f64 (sidesF 3 x y z).2]) ∧ Grown w w') = _ from rfl) (side3 b x y z hx hy w )
theorem sc4 (b x y z : Nat) (w : World) (hc0 : w.cell? ⟨b + 3, 0, none⟩ = some (.func (.func 52) #[] #[])) : SideP b x y z w 4 :=
  call_of (show fidx 4 = 59 from rfl) (by simp [capsV]) (show (fun (e : Ending) w' => e = .returned (.tuple #[.float .f64 (sidesF 4 x y z).1, .float .f64 (sidesF 4 x y z).2]) ∧ Grown w w') = _ from rfl) (side4 b x y z w hc0)
theorem sc5 (b x y z : Nat) (w : World) (hc0 : w.cell? ⟨b + 4, 0, none⟩ = some (.func (.func 53) #[] #[])) : SideP b x y z w 5 :=
  call_of (show fidx 5 = 60 from rfl) (by simp [capsV]) (show (fun (e : Ending) w' => e = .returned (.tuple #[.float .f64 (sidesF 5 x y z).1, .float .f64 (sidesF 5 x y z).2]) ∧ Grown w w') = _ from rfl) (side5 b x y z w hc0)
theorem sc6 (b x y z : Nat) (w : World) (hc0 : w.cell? ⟨b + 2, 0, none⟩ = some (.func (.func 51) #[] #[])) : SideP b x y z w 6 :=
  call_of (show fidx 6 = 61 from rfl) (by simp [capsV]) (show (fun (e : Ending) w' => e = .returned (.tuple #[.float .f64 (sidesF 6 x y z).1, .float .f64 (sidesF 6 x y z).2]) ∧ Grown w w') = _ from rfl) (side6 b x y z w hc0)
theorem sc7 (b x y z : Nat) (w : World) (hc0 : w.cell? ⟨b + 1, 0, none⟩ = some (.func (.func 50) #[] #[])) : SideP b x y z w 7 :=
  call_of (show fidx 7 = 62 from rfl) (by simp [capsV]) (show (fun (e : Ending) w' => e = .returned (.tuple #[.float .f64 (sidesF 7 x y z).1, .float .f64 (sidesF 7 x y z).2]) ∧ Grown w w') = _ from rfl) (side7 b x y z w hc0)
theorem sc8 (b x y z : Nat) (w : World) (hc0 : w.cell? ⟨b + 5, 0, none⟩ = some (.func (.func 54) #[] #[])) : SideP b x y z w 8 :=
  call_of (show fidx 8 = 63 from rfl) (by simp [capsV]) (show (fun (e : Ending) w' => e = .returned (.tuple #[.float .f64 (sidesF 8 x y z).1, .float .f64 (sidesF 8 x y z).2]) ∧ Grown w w') = _ from rfl) (side8 b x y z w hc0)
theorem sc9 (b x y z : Nat) (w : World) (hc0 : w.cell? ⟨b + 2, 0, none⟩ = some (.func (.func 51) #[] #[])) (hc1 : w.cell? ⟨b + 1, 0, none⟩ = some (.func (.func 50) #[] #[])) (hc2 : w.cell? ⟨b + 5, 0, none⟩ = some (.func (.func 54) #[] #[])) : SideP b x y z w 9 :=
  call_of (show fidx 9 = 64 from rfl) (by simp [capsV]) (show (fun (e : Ending) w' => e = .returned (.tuple #[.float .f64 (sidesF 9 x y z).1, .float .f64 (sidesF 9 x y z).2]) ∧ Grown w w') = _ from rfl) (side9 b x y z w hc0 hc1 hc2)
theorem sc10 (b x y z : Nat) (hx : x < 2 ^ 64) (hy : y < 2 ^ 64) (w : World)  : SideP b x y z w 10 :=
  call_of (show fidx 10 = 65 from rfl) (by simp [capsV]) (show (fun (e : Ending) w' => e = .returned (.tuple #[.float .f64 (sidesF 10 x y z).1, .float .f64 (sidesF 10 x y z).2]) ∧ Grown w w') = _ from rfl) (side10 b x y z hx hy w )
theorem sc11 (b x y z : Nat) (w : World) (hc0 : w.cell? ⟨b + 5, 0, none⟩ = some (.func (.func 54) #[] #[])) (hc1 : w.cell? ⟨b + 2, 0, none⟩ = some (.func (.func 51) #[] #[])) : SideP b x y z w 11 :=
  call_of (show fidx 11 = 66 from rfl) (by simp [capsV]) (show (fun (e : Ending) w' => e = .returned (.tuple #[.float .f64 (sidesF 11 x y z).1, .float .f64 (sidesF 11 x y z).2]) ∧ Grown w w') = _ from rfl) (side11 b x y z w hc0 hc1)
theorem sc12 (b x y z : Nat) (w : World) (hc0 : w.cell? ⟨b + 2, 0, none⟩ = some (.func (.func 51) #[] #[])) : SideP b x y z w 12 :=
  call_of (show fidx 12 = 67 from rfl) (by simp [capsV]) (show (fun (e : Ending) w' => e = .returned (.tuple #[.float .f64 (sidesF 12 x y z).1, .float .f64 (sidesF 12 x y z).2]) ∧ Grown w w') = _ from rfl) (side12 b x y z w hc0)
theorem sc13 (b x y z : Nat) (w : World) (hc0 : w.cell? ⟨b + 3, 0, none⟩ = some (.func (.func 52) #[] #[])) : SideP b x y z w 13 :=
  call_of (show fidx 13 = 68 from rfl) (by simp [capsV]) (show (fun (e : Ending) w' => e = .returned (.tuple #[.float .f64 (sidesF 13 x y z).1, .float .f64 (sidesF 13 x y z).2]) ∧ Grown w w') = _ from rfl) (side13 b x y z w hc0)
theorem sc14 (b x y z : Nat) (w : World) (hc0 : w.cell? ⟨b + 1, 0, none⟩ = some (.func (.func 50) #[] #[])) : SideP b x y z w 14 :=
  call_of (show fidx 14 = 69 from rfl) (by simp [capsV]) (show (fun (e : Ending) w' => e = .returned (.tuple #[.float .f64 (sidesF 14 x y z).1, .float .f64 (sidesF 14 x y z).2]) ∧ Grown w w') = _ from rfl) (side14 b x y z w hc0)
theorem sc15 (b x y z : Nat) (w : World) (hc0 : w.cell? ⟨b + 3, 0, none⟩ = some (.func (.func 52) #[] #[])) : SideP b x y z w 15 :=
  call_of (show fidx 15 = 70 from rfl) (by simp [capsV]) (show (fun (e : Ending) w' => e = .returned (.tuple #[.float .f64 (sidesF 15 x y z).1, .float .f64 (sidesF 15 x y z).2]) ∧ Grown w w') = _ from rfl) (side15 b x y z w hc0)
theorem sc16 (b x y z : Nat) (w : World) (hc0 : w.cell? ⟨b + 3, 0, none⟩ = some (.func (.func 52) #[] #[])) (hc1 : w.cell? ⟨b + 1, 0, none⟩ = some (.func (.func 50) #[] #[])) : SideP b x y z w 16 :=
  call_of (show fidx 16 = 71 from rfl) (by simp [capsV]) (show (fun (e : Ending) w' => e = .returned (.tuple #[.float .f64 (sidesF 16 x y z).1, .float .f64 (sidesF 16 x y z).2]) ∧ Grown w w') = _ from rfl) (side16 b x y z w hc0 hc1)
theorem sc17 (b x y z : Nat) (w : World) (hc0 : w.cell? ⟨b + 2, 0, none⟩ = some (.func (.func 51) #[] #[])) (hc1 : w.cell? ⟨b + 1, 0, none⟩ = some (.func (.func 50) #[] #[])) : SideP b x y z w 17 :=
  call_of (show fidx 17 = 72 from rfl) (by simp [capsV]) (show (fun (e : Ending) w' => e = .returned (.tuple #[.float .f64 (sidesF 17 x y z).1, .float .f64 (sidesF 17 x y z).2]) ∧ Grown w w') = _ from rfl) (side17 b x y z w hc0 hc1)
theorem sc18 (b x y z : Nat) (w : World) (hc0 : w.cell? ⟨b + 4, 0, none⟩ = some (.func (.func 53) #[] #[])) : SideP b x y z w 18 :=
  call_of (show fidx 18 = 73 from rfl) (by simp [capsV]) (show (fun (e : Ending) w' => e = .returned (.tuple #[.float .f64 (sidesF 18 x y z).1, .float .f64 (sidesF 18 x y z).2]) ∧ Grown w w') = _ from rfl) (side18 b x y z w hc0)
theorem sc19 (b x y z : Nat) (w : World) (hc0 : w.cell? ⟨b + 1, 0, none⟩ = some (.func (.func 50) #[] #[])) : SideP b x y z w 19 :=
  call_of (show fidx 19 = 74 from rfl) (by simp [capsV]) (show (fun (e : Ending) w' => e = .returned (.tuple #[.float .f64 (sidesF 19 x y z).1, .float .f64 (sidesF 19 x y z).2]) ∧ Grown w w') = _ from rfl) (side19 b x y z w hc0)
theorem sc20 (b x y z : Nat) (w : World) (hc0 : w.cell? ⟨b + 4, 0, none⟩ = some (.func (.func 53) #[] #[])) (hc1 : w.cell? ⟨b + 3, 0, none⟩ = some (.func (.func 52) #[] #[])) : SideP b x y z w 20 :=
  call_of (show fidx 20 = 75 from rfl) (by simp [capsV]) (show (fun (e : Ending) w' => e = .returned (.tuple #[.float .f64 (sidesF 20 x y z).1, .float .f64 (sidesF 20 x y z).2]) ∧ Grown w w') = _ from rfl) (side20 b x y z w hc0 hc1)
theorem sc21 (b x y z : Nat) (hx : x < 2 ^ 64) (hy : y < 2 ^ 64) (w : World) (hc0 : w.cell? ⟨b, 0, none⟩ = some (.float .f64 9218868437227405312)) : SideP b x y z w 21 :=
  call_of (show fidx 21 = 76 from rfl) (by simp [capsV]) (show (fun (e : Ending) w' => e = .returned (.tuple #[.float .f64 (sidesF 21 x y z).1, .float .f64 (sidesF 21 x y z).2]) ∧ Grown w w') = _ from rfl) (side21 b x y z hx hy w hc0)
theorem sc22 (b x y z : Nat) (w : World) (hc0 : w.cell? ⟨b + 3, 0, none⟩ = some (.func (.func 52) #[] #[])) (hc1 : w.cell? ⟨b + 5, 0, none⟩ = some (.func (.func 54) #[] #[])) : SideP b x y z w 22 :=
  call_of (show fidx 22 = 77 from rfl) (by simp [capsV]) (show (fun (e : Ending) w' => e = .returned (.tuple #[.float .f64 (sidesF 22 x y z).1, .float .f64 (sidesF 22 x y z).2]) ∧ Grown w w') = _ from rfl) (side22 b x y z w hc0 hc1)
theorem sc23 (b x y z : Nat) (w : World) (hc0 : w.cell? ⟨b + 4, 0, none⟩ = some (.func (.func 53) #[] #[])) (hc1 : w.cell? ⟨b + 3, 0, none⟩ = some (.func (.func 52) #[] #[])) : SideP b x y z w 23 :=
  call_of (show fidx 23 = 78 from rfl) (by simp [capsV]) (show (fun (e : Ending) w' => e = .returned (.tuple #[.float .f64 (sidesF 23 x y z).1, .float .f64 (sidesF 23 x y z).2]) ∧ Grown w w') = _ from rfl) (side23 b x y z w hc0 hc1)
theorem side_calls (b x y z : Nat) (hx : x < 2 ^ 64) (hy : y < 2 ^ 64) (w : World) (hv : LawVars b w) : ∀ k, k < 24 → SideP b x y z w k := by
  obtain ⟨v0, v1, v2, v3, v4, v5⟩ := hv
  exact lt24 (p := SideP b x y z w) ⟨sc0 b x y z w v1, sc1 b x y z w v3, sc2 b x y z hx hy w , sc3 b x y z hx hy w , sc4 b x y z w v3, sc5 b x y z w v4, sc6 b x y z w v2, sc7 b x y z w v1, sc8 b x y z w v5, sc9 b x y z w v2 v1 v5, sc10 b x y z hx hy w , sc11 b x y z w v5 v2, sc12 b x y z w v2, sc13 b x y z w v3, sc14 b x y z w v1, sc15 b x y z w v3, sc16 b x y z w v3 v1, sc17 b x y z w v2 v1, sc18 b x y z w v4, sc19 b x y z w v1, sc20 b x y z w v4 v3, sc21 b x y z hx hy w v0, sc22 b x y z w v3 v5, sc23 b x y z w v4 v3⟩

theorem sides_no (n : Int) (h : n < 1 ∨ 24 < n) (x y z : Nat) (w : World) : Calls Try.prog 14 #[.int .i64 n, .float .f64 x, .float .f64 y, .float .f64 z] w fun e w' => e = .returned (.tuple #[.float .f64 0, .float .f64 0, .int .i64 2]) ∧ Grown w w' := by
  rcases h with h | h
  · go_enter Try.func14, Try.ntmps14
    go_wp2_with fail
    go_ret3
    exact ⟨rfl, Grown.refl _⟩
  · have h1 : ¬ n < 1 := by omega
    go_enter Try.func14, Try.ntmps14
    go_wp2_with fail
    go_ret3
    exact ⟨rfl, Grown.refl _⟩
theorem witness_no (n : Int) (h : n < 1 ∨ 24 < n) (w : World) : Calls Try.prog 16 #[.int .i64 n] w fun e w' => e = .returned (.tuple #[.float .f64 0, .float .f64 0, .float .f64 0, .int .i64 2]) ∧ Grown w w' := by
  have C := Lib.hid (fun w => holds_no n h w)
  clear h
  go_enter Try.func16, Try.ntmps16
  go_wp2_with fail
  refine (C.out _).mono ?_
  rintro e w1 ⟨rfl, hg1⟩
  go_wp2_with fail
  go_returns
  exact ⟨rfl, hg1⟩
theorem witness_none (k : Nat) (hk : k < 24) (hh : holdsB k = true) (w : World) : Calls Try.prog 16 #[.int .i64 (k + 1)] w fun e w' => e = .returned (.tuple #[.float .f64 0, .float .f64 0, .float .f64 0, .int .i64 6]) ∧ Grown w w' := by
  have C := Lib.hid (fun w => holds_yes k hk w)
  go_enter Try.func16, Try.ntmps16
  go_wp2_with fail
  refine (C.out _).mono ?_
  rintro e w1 ⟨rfl, hg1⟩
  go_wp2_with fail
  go_returns
  exact ⟨rfl, hg1⟩
set_option maxHeartbeats 1000000 in
theorem witness_yes (k : Nat) (hk : k < 24) (hh : holdsB k = false) (w : World) : Calls Try.prog 16 #[.int .i64 (k + 1)] w fun e w' => e = .returned (.tuple #[.float .f64 (wits k).1, .float .f64 (wits k).2.1, .float .f64 (wits k).2.2, .int .i64 0]) ∧ Grown w w' := by
  have C := Lib.hid (fun w => holds_yes k hk w)
  go_enter Try.func16, Try.ntmps16
  go_wp2_with fail
  refine (C.out _).mono ?_
  rintro e w1 ⟨rfl, hg1⟩
  go_wp2_with fail
  refine (laws_calls _).mono ?_
  rintro e w2 ⟨rfl, hw2⟩
  have hg : Grown w1 w2 := by rw [hw2]; exact lawWorld_grown w1
  obtain ⟨c0, c1, c2⟩ := cell_wit w1.heap.size k hk
  have hc0 : w2.cell? ⟨w1.heap.size + 6, k * 5 + 2, none⟩ = some (.float .f64 (wits k).1) := by rw [hw2, lawWorld_row]; exact c0
  have hc1 : w2.cell? ⟨w1.heap.size + 6, k * 5 + 2 + 1, none⟩ = some (.float .f64 (wits k).2.1) := by rw [hw2, lawWorld_row]; exact c1
  have hc2 : w2.cell? ⟨w1.heap.size + 6, k * 5 + 2 + 2, none⟩ = some (.float .f64 (wits k).2.2) := by rw [hw2, lawWorld_row]; exact c2
  clear hw2 c0 c1 c2
  go_wp2_with fail
  go_quiet (fail)
  go_wp2
  go_returns
  exact ⟨rfl, show Grown w (World.drewN _ _) from (gtrans hg1 hg).alloc _ _⟩

set_option maxHeartbeats 2000000 in
theorem sides_yes (k : Nat) (hk : k < 24) (x y z : Nat) (hx : x < 2 ^ 64) (hy : y < 2 ^ 64) (w : World) : Calls Try.prog 14 #[.int .i64 (k + 1), .float .f64 x, .float .f64 y, .float .f64 z] w fun e w' => e = .returned (.tuple #[.float .f64 (sidesF k (canon x) (canon y) (canon z)).1, .float .f64 (sidesF k (canon x) (canon y) (canon z)).2, .int .i64 0]) ∧ Grown w w' := by
  have hcf := run_fidx k hk
  have SC := Lib.hid (fun b w (hv : LawVars b w) => side_calls b (canon x) (canon y) (canon z) (Fl.canon_lt hx) (Fl.canon_lt hy) w hv k hk)
  clear hx hy
  have hk1 : (0 : Int) ≤ (k : Int) := by omega
  have hk2 : (k : Int) < 24 := by omega
  have hk3 : IntKind.i64.wrap (k : Int) = k := IntWalk.i64_in _ (by omega)
  go_enter Try.func14, Try.ntmps14
  go_wp2_with fail
  go_region_with (first
    | (go_at_call 36; refine (laws_calls _).mono ?_; rintro e w2 ⟨rfl, hw2⟩; have hg : Grown w w2 := (by rw [hw2]; exact lawWorld_grown _); have hc0 : w2.cell? ⟨w.heap.size + 6, k * 5, none⟩ = some (.func (.func (fidx k)) #[] (capsV k w.heap.size)) := (by rw [hw2]; exact (lawWorld_row _ _).trans (cell_fn _ k hk)); have HV := Lib.hid (show LawVars w.heap.size w2 by rw [hw2]; exact lawWorld_vars _); clear hw2)
    | (go_at_call 21; refine (canon_calls _ _).mono ?_; rintro e w' ⟨rfl, rfl⟩)
    | (refine (SC.out _ _ HV.out).mono ?_; rintro e w3 ⟨rfl, hg3⟩))
  all_goals (go_wp2; go_ret3; exact ⟨rfl, gtrans (by assumption) (by assumption)⟩)
end Go.Proofs.Ytompdlhhfpjebaa
