/- vars: find, at a name that there is and at one that there is not. -/
import Derived.Test.YtaognphegancbaaGreatDoorVA
import Derived.StringKeys
namespace Go.Proofs.YtaognphegancbaaGreatDoor
set_option linter.unusedVariables false
set_option linter.unusedSimpArgs false
open Go.RowKit Go.Maps Go.WideMaps
open Fl (nanB canon qnan sg rg negW)
theorem lit_inj {a b : Int} {D : DataW Unit} (h1 : D = .lit (.int .i64 a)) (h2 : D = .lit (.int .i64 b)) : a = b := by
  rw [h1] at h2
  injection h2 with h2
  injection h2
theorem find_hit (S : Nat) (BM : Nat) (l : List ByteArray) (i : Nat) (s : ByteArray) (w : World) (c1 : w.cell? ⟨S, 1, none⟩ = some (.map (some BM))) (hm : IsMapOf w BM l)
    (hs : s.size ≤ maxLen) (hn : l.Nodup) (hi : l[i]? = some s) :
    Calls Tryz.prog 37 #[.pointer (some ⟨S, 0, none⟩), .string s] w fun e w' => e = .returned (.tuple #[.int .i64 (i : Int), .int .i64 0]) ∧ w = w' := by
  have hmem := List.mem_of_getElem? hi
  have HH := Lib.hid (mapOf_hit s l hmem)
  have HA := Lib.hid (fun z => mapOf_at i s z l hn hi)
  have HM := Lib.hid hm
  have HS := Lib.hid (keyOf_string_mk (P := Tryz.prog) Tryz.underlying9 hs)
  clear hmem hi hn hm hs
  go_enter Tryz.func37, Tryz.ntmps37
  go_wp2_with (first
    | (go_at_call 38; refine (none_calls _ (.int .i64 0) (.int .i64 0) BM _ c1).mono ?_; rintro e w' ⟨rfl, rfl⟩)
    | (at_lookup; (refine wpList_lookup_own_ok_int (H := Unit) _ rfl _ _ 85 rfl 9 3 .i64 strK Tryz.underlying85 Tryz.underlying3 (zeroInt _) BM l.length (mapOf l) rfl HM.out _ (keyL s) rfl HS.out ?_); intro c hat hwc; rw [HH.out]; obtain rfl : (i : Int) = c := lit_inj (HA.out _) hat; clear hat))
  go_ret2
  exact ⟨rfl, rfl⟩
theorem find_miss (S : Nat) (BM : Nat) (l : List ByteArray) (s : ByteArray) (w : World) (c1 : w.cell? ⟨S, 1, none⟩ = some (.map (some BM))) (hm : IsMapOf w BM l)
    (hs : s.size ≤ maxLen) (hi : s ∉ l) :
    Calls Tryz.prog 37 #[.pointer (some ⟨S, 0, none⟩), .string s] w fun e w' => e = .returned (.tuple #[.int .i64 0, .int .i64 281]) ∧ w = w' := by
  have HH := Lib.hid (mapOf_miss s l hi)
  have HM := Lib.hid hm
  have HS := Lib.hid (keyOf_string_mk (P := Tryz.prog) Tryz.underlying9 hs)
  clear hi hm hs
  go_enter Tryz.func37, Tryz.ntmps37
  go_wp2_with (first
    | (go_at_call 38; refine (none_calls _ (.int .i64 0) (.int .i64 0) BM _ c1).mono ?_; rintro e w' ⟨rfl, rfl⟩)
    | (at_lookup; refine wpList_lookup_own_ok_int (H := Unit) _ rfl _ _ 85 rfl 9 3 .i64 strK Tryz.underlying85 Tryz.underlying3 (zeroInt _) BM l.length (mapOf l) rfl HM.out _ (keyL s) rfl HS.out ?_; intro c hat hwc; rw [HH.out]; clear hat))
  go_ret2
  exact ⟨rfl, rfl⟩
end Go.Proofs.YtaognphegancbaaGreatDoor
